/- Contract of the account's Back. -/
import Derived.Test.YthmllfejnmbfgaaO
namespace Go.Proofs.Ythmllfejnmbfgaa
open Go.RowKit
set_option linter.unusedVariables false
set_option linter.unusedSimpArgs false

/-- The counts, the first k of them used as the list says. -/
def updC (cs : List Cnt) (ms : List Int) (k : Nat) : List Cnt := cs.mapIdx fun i c => if i < k then { c with used := ms.getD i 0 } else c
theorem updC_length (cs : List Cnt) (ms : List Int) (k : Nat) : (updC cs ms k).length = cs.length := by simp [updC]
theorem updC_zero (cs : List Cnt) (ms : List Int) : updC cs ms 0 = cs := by
  unfold updC
  apply List.ext_getElem
  · simp
  · intro i h1 h2; simp
theorem updC_at (cs : List Cnt) (ms : List Int) (k : Nat) (h : k < cs.length) : (updC cs ms k)[k]'(by rw [updC_length]; exact h) = cs[k] := by simp [updC]
theorem updC_succ (cs : List Cnt) (ms : List Int) (k : Nat) (h : k < cs.length) : updC cs ms (k + 1) = (updC cs ms k).set k { cs[k] with used := ms.getD k 0 } := by
  apply List.ext_getElem
  · simp [updC]
  · intro i h1 h2
    by_cases e : k = i
    · subst e; simp [updC]
    · rw [List.getElem_set_ne e]
      simp only [updC, List.getElem_mapIdx]
      by_cases q : i < k
      · rw [if_pos q, if_pos (by omega)]
      · rw [if_neg q, if_neg (by omega)]
def backOK (cs : List Cnt) (ms : List Int) : Prop := ms.length = cs.length ∧ ∀ i, i < cs.length → 0 ≤ ms.getD i 0 ∧ ms.getD i 0 ≤ (cs.getD i ⟨0, 0, 0⟩).used
def BackPost (a g : Nat) (cs : List Cnt) (ms : List Int) (w : World) (e : Ending) (w' : World) : Prop :=
  (backOK cs ms ∧ e = .returned (.int .i64 0) ∧ ∃ g', w.heap.size ≤ g' ∧ Acct w' a g' (updC cs ms cs.length) ∧ Fr (· = a) w w') ∨
  (¬ backOK cs ms ∧ e = .returned (.int .i64 1) ∧ Fr (fun _ => False) w w')
structure BackRel (N : Nat) (cs : List Cnt) (ms : List Int) (w3 : World) (k : Nat) (wl : World) : Prop where
  bn : Blk wl (N + 1) 51 [.slice (some ⟨N, 0, none⟩) cs.length cs.length]
  row : Blk wl N 55 (flat (updC cs ms k) ++ [])
  ok : ∀ i, i < k → 0 ≤ ms.getD i 0 ∧ ms.getD i 0 ≤ (cs.getD i ⟨0, 0, 0⟩).used
  fr : Fr (· = N) w3 wl
theorem BackRel.next {N : Nat} {cs : List Cnt} {ms : List Int} {w3 wl w' : World} {k : Nat} (h : BackRel N cs ms w3 k wl) (hk : k < cs.length)
    (hb : Blk w' N 55 (flat ((updC cs ms k).set k { cs[k] with used := ms.getD k 0 }) ++ [])) (hf : Fr (· = N) wl w') (ho : 0 ≤ ms.getD k 0 ∧ ms.getD k 0 ≤ cs[k].used) : BackRel N cs ms w3 (k + 1) w' :=
  ⟨h.bn.fr hf (by omega), by rw [updC_succ cs ms k hk]; exact hb, fun i hi => by
    rcases Nat.lt_succ_iff_lt_or_eq.1 hi with h1 | rfl
    · exact h.ok i h1
    · rw [getD_at hk]; exact ho, h.fr.trans hf fun _ _ h => h⟩
theorem flat_one (cs : List Cnt) : ∀ u ∈ flat cs, u.oneCell' = true := by
  intro u hu
  simp only [flat, List.mem_flatMap] at hu
  obtain ⟨c, _, hc⟩ := hu
  simp at hc
  rcases hc with rfl | rfl | rfl <;> rfl
theorem acct_mk {w : World} {a g n : Nat} {cs : List Cnt} (hne : a ≠ g) (h16 : cs.length ≤ 16) (hn : n = cs.length) (h1 : Blk w a 53 [.slice (some ⟨g, 0, none⟩) n n]) (h2 : Blk w g 55 (flat cs)) : Acct w a g cs := by
  subst hn
  exact ⟨hne, h16, cs.length, [], Nat.le_refl _, by omega, h1, by simpa using h2⟩

theorem back_len {w : World} {a g : Nat} {cs : List Cnt} (av : Option Addr) (mc : Nat) (ms : List Int) (ha : Acct w a g cs) (hm : ms.length ≤ 9223372036854775807) (hne : ms.length ≠ cs.length) :
    Calls Try.prog 24 #[.pointer (some ⟨a, 0, none⟩), .slice av ms.length mc] w (BackPost a g cs ms w) := by
  obtain ⟨hn, h16, cap, rest, hc, hm, hB, hG⟩ := ha
  have c0 := hB.cell 0
  simp only [List.getElem?_cons_zero] at c0
  have hd : ((ms.length : Int) != cs.length) = true := by simp; omega
  refine Calls.mono (R := fun e w' => e = .returned (.int .i64 1) ∧ w' = w) ?_ (by rintro e w' ⟨rfl, rfl⟩; exact .inr ⟨fun h => hne h.1, rfl, Fr.refl _ _⟩)
  go_enter Try.func24, Try.ntmps24
  go_wp2
  go_ret
  exact ⟨rfl, rfl⟩

set_option maxHeartbeats 1600000 in
set_option maxRecDepth 100000 in
theorem back_same {w : World} {a g : Nat} {cs : List Cnt} (lb lo mc : Nat) (ms : List Int) (ha : Acct w a g cs) (h1 : 1 ≤ cs.length) (hlen : ms.length = cs.length) (hlb : lb < w.heap.size)
    (hms : ∀ j, j < ms.length → w.cell? ⟨lb, lo + j, none⟩ = some (.int .i64 (ms.getD j 0))) :
    Calls Try.prog 24 #[.pointer (some ⟨a, 0, none⟩), .slice (some ⟨lb, lo, none⟩) cs.length mc] w (BackPost a g cs ms w) := by
  obtain ⟨hn, h16, cap, rest, hc, hm, hB, hG⟩ := ha
  have c0 := hB.cell 0
  have f0 := hB.free 0
  simp only [List.getElem?_cons_zero] at c0
  have hd : ((cs.length : Int) != cs.length) = false := by simp
  obtain ⟨mk, hmk, hmks⟩ : ∃ mk : Array Value, (∀ W : World, (Instr.makeSlice 51 (.int .i64 cs.length) (.int .i64 cs.length)).run Try.prog W = .ok (.slice (some ⟨W.heap.size, 0, none⟩) cs.length cs.length) (W.alloc (.cells mk 55))) ∧ mk.size = cs.length * 3 := by
    obtain ⟨i0, hi, hz0, hz1, hz2⟩ := info_parts Try.info55
    refine ⟨madeCells #[.int .i64 0, .int .i64 0, .int .i64 0] (cs.length * 3), fun W => ?_, size_madeCells _ _⟩
    have := run_make (P := Try.prog) W 51 55 i0 _ Try.underlying51 hi hz0 .i64 .i64 cs.length cs.length (by omega) (Int.le_refl _) (by rw [hz2]; omega) (by omega)
    simp only [Int.toNat_natCast, hz1] at this
    exact this
  have HL := Lib.hid hlen
  have HM := Lib.hid hms
  have HG := Lib.hid hG
  have HB := Lib.hid hB
  have HK := Lib.hid hmks
  have hgl := hG.lt
  have hal := hB.lt
  clear hlen hms hG hB hmks
  obtain ⟨N, hN⟩ : ∃ N, N = w.heap.size := ⟨_, rfl⟩
  have HN := Lib.hid hN
  go_enter Try.func24, Try.ntmps24
  go_wp2
  rw [← hN]
  clear hmk
  have b1 : Blk ((w.alloc (.cells mk 55)).alloc (.cells #[.slice (some ⟨N, 0, none⟩) cs.length cs.length] 51)) (N + 1) 51 [.slice (some ⟨N, 0, none⟩) cs.length cs.length] := Blk.new' _ _ _ [_] (by simp [hN])
  have b2 : Blk ((w.alloc (.cells mk 55)).alloc (.cells #[.slice (some ⟨N, 0, none⟩) cs.length cs.length] 51)) N 55 mk.toList := (Blk.new' w N 55 mk.toList hN).alloc _
  have b3 : Blk ((w.alloc (.cells mk 55)).alloc (.cells #[.slice (some ⟨N, 0, none⟩) cs.length cs.length] 51)) a 53 [.slice (some ⟨g, 0, none⟩) cs.length cap] := (HB.out.alloc _).alloc _
  have b4 : Blk ((w.alloc (.cells mk 55)).alloc (.cells #[.slice (some ⟨N, 0, none⟩) cs.length cs.length] 51)) g 55 (flat cs ++ rest) := (HG.out.alloc _).alloc _
  have b5 : Fr (fun _ => False) w ((w.alloc (.cells mk 55)).alloc (.cells #[.slice (some ⟨N, 0, none⟩) cs.length cs.length] 51)) := ((Fr.refl _ _).alloc _).alloc _
  have b6 : ((w.alloc (.cells mk 55)).alloc (.cells #[.slice (some ⟨N, 0, none⟩) cs.length cs.length] 51)).heap.size = N + 2 := by simp [hN]
  generalize (w.alloc (.cells mk 55)).alloc (.cells #[.slice (some ⟨N, 0, none⟩) cs.length cs.length] 51) = w2 at *
  have d1 := b1.cell 0
  have d3 := b3.cell 0
  simp only [List.getElem?_cons_zero] at d1 d3
  have B1 := Lib.hid b1
  have B2 := Lib.hid b2
  have B3 := Lib.hid b3
  have B5 := Lib.hid b5
  have B6 := Lib.hid b6
  have HS : Hid (∀ j v, (flat cs)[j]? = some v → w2.cell? ((⟨g, 0, none⟩ : Addr).add j) = some v) := Lib.hid (fun j v hj => by
    have e : (⟨g, 0, none⟩ : Addr).add j = ⟨g, j, none⟩ := by unfold Addr.add; split <;> simp_all
    rw [e, b4.cell, List.getElem?_append_left (List.getElem?_eq_some_iff.1 hj).1]; exact hj)
  clear b1 b2 b3 b4 b5 b6 hN c0 f0
  go_region_law (refine step_copy_wide rfl (.tmp 25) (.tmp 29) 51 51 rfl 55 3 Try.underlying51 (by kernel_rfl) N cs.length cs.length ⟨g, 0, none⟩ cap (by simp [Act.eval, Act.put]) (by simp [Act.eval, Act.put]) mk.toList 55 B2.out.drew (flat cs) (flat_length cs) HS.out (by rw [flat_length]; simpa using HK.out.symm) (flat_one cs) ?_; intro w3 hn3 hf3)
  all_goals
    have k1 : Blk w3 (N + 1) 51 [.slice (some ⟨N, 0, none⟩) cs.length cs.length] := (B1.out.drew).fr hf3 (by show ¬ N + 1 = N; omega)
    have k2 : Blk w3 a 53 [.slice (some ⟨g, 0, none⟩) cs.length cap] := (B3.out.drew).fr hf3 (by show ¬ a = N; have := HN.out; omega)
    have k3 : Fr (fun i => i = N) w w3 := ((B5.out.drew).mono (fun i _ h => h.elim) : Fr (fun i => i = N) w w2.drew).trans hf3 (fun _ _ h => h)
    have hs3 := hf3.size
    have hsN : N + 2 ≤ w3.heap.size := by have := B6.out; have : w2.drew.heap.size = w2.heap.size := rfl; omega
    have K2 := Lib.hid k2
    have K3 := Lib.hid k3
    have R0 : Hid (BackRel N cs ms w3 0 w3) := Lib.hid ⟨k1, by rw [updC_zero]; simpa using hn3, fun i hi => by omega, Fr.refl _ _⟩
    clear hn3 hf3 k1 k2 k3 hs3 d1 d3
    go_wp2
    go_loopw [34] (fun i wl => ∃ k : Nat, k ≤ cs.length ∧ i = .int .i64 k ∧ BackRel N cs ms w3 k wl) (fun i _ => cs.length - (intOf i).toNat)
    case atStart => exact ⟨0, Nat.zero_le _, rfl, R0.out⟩
    case round =>
      obtain ⟨k, hk, rfl, hr⟩ := hrel
      have HR := Lib.hid hr
      clear hr
      by_cases hlt : k < cs.length
      · have hx0 := HM.out k (by have := HL.out; omega)
        have hx1 := (K3.out.cell (a := ⟨lb, lo + k, none⟩) hlb (by show ¬ lb = N; have := HN.out; omega)).trans hx0
        have hx := (HR.out.fr.cell (a := ⟨lb, lo + k, none⟩) (by show lb < w3.heap.size; have := HN.out; omega) (by show ¬ lb = N; have := HN.out; omega)).trans hx1
        clear hx0 hx1
        obtain ⟨x, hxe⟩ : ∃ x, ms.getD k 0 = x := ⟨_, rfl⟩
        rw [hxe] at hx
        have HX := Lib.hid hxe
        clear hxe
        by_cases hok : 0 ≤ x ∧ x ≤ cs[k].used
        · have HO := Lib.hid hok
          clear hok
          go_wp2_with fail
          refine (set_yes (cs := updC cs ms k) x [] HR.out.bn HR.out.row (by rw [updC_length]; exact hlt) (by rw [updC_length]) (by rw [updC_length]; exact h16) HO.out.1 (by rw [updC_at cs ms k hlt]; exact HO.out.2)).mono ?_
          rintro e w' ⟨rfl, hb, hf⟩
          rw [updC_at cs ms k hlt] at hb
          have RN := Lib.hid (HR.out.next hlt (by rw [HX.out]; exact hb) hf (by rw [HX.out]; exact HO.out))
          clear hb hf
          go_wp2
          go_roundw
          case rel => exact ⟨k + 1, by omega, by go_num, RN.out⟩
          case measure => simp [intOf]; omega
        · have HO := Lib.hid hok
          clear hok
          go_wp2_with fail
          refine (set_no (cs := updC cs ms k) x [] HR.out.bn HR.out.row (by rw [updC_length]; exact hlt) (by rw [updC_length]) (by rw [updC_length]; exact h16) (by rw [updC_at cs ms k hlt]; have := HO.out; omega)).mono ?_
          rintro e w' ⟨rfl, hf⟩
          have hbad : ¬ backOK cs ms := fun h => HO.out (by have := h.2 k hlt; rw [HX.out, getD_at hlt] at this; exact this)
          have hfr : Fr (fun _ => False) w w' := (K3.out.trans (HR.out.fr.trans hf fun _ _ h => h) fun _ _ h => h).mono fun i hi e => by have := HN.out; omega
          have P := Lib.hid (show BackPost a g cs ms w (.returned (.int .i64 1)) w' from .inr ⟨hbad, rfl, hfr⟩)
          clear hf hbad hfr
          go_wp2
          go_ret
          exact P.out
      · obtain rfl : k = cs.length := by omega
        have e1 := HR.out.bn.cell 0
        have ha := K2.out.fr HR.out.fr (by show ¬ a = N; have := HN.out; omega)
        have f1 := ha.free 0
        have e2 := ha.cell 0
        simp only [List.getElem?_cons_zero] at e1 e2
        have hA : Hid (∀ w', Blk w' a 53 [.slice (some ⟨N, 0, none⟩) cs.length cs.length] → Fr (fun i => i = a) (w := wr) w' → BackPost a g cs ms w (.returned (.int .i64 0)) w') := Lib.hid (fun w' h1 h2 => by
          have hN := HN.out
          refine .inl ⟨⟨HL.out, HR.out.ok⟩, rfl, N, by omega, acct_mk (by omega) (by rw [updC_length]; exact h16) (by rw [updC_length]) h1 ?_, ?_⟩
          · have := HR.out.row.fr h2 (by omega)
            simpa using this
          · exact (K3.out.trans HR.out.fr fun _ _ h => h).mono (S' := fun i => i = a) (fun i hi e => by omega) |>.trans h2 fun _ _ h => h)
        have q1 := ha.set 0 (.slice (some ⟨N, 0, none⟩) cs.length cs.length)
        have P := Lib.hid (hA.out _ q1 ((Fr.refl _ _).set _ _ _ rfl))
        clear ha hA q1
        go_wp2
        go_ret
        exact P.out
end Go.Proofs.Ythmllfejnmbfgaa
