/- Contract of the reference's Back. -/
import Derived.Test.YthmllfejnmbfgaaP
namespace Go.Proofs.Ythmllfejnmbfgaa
open Go.RowKit
set_option linter.unusedVariables false
set_option linter.unusedSimpArgs false

def RBackPost (b gl gu gp : Nat) (cs : List Cnt) (ms : List Int) (w : World) (e : Ending) (w' : World) : Prop :=
  (backOK cs ms ∧ e = .returned (.int .i64 0) ∧ ∃ gu', w.heap.size ≤ gu' ∧ RAC w' b gl gu' gp (updC cs ms cs.length) ∧ Fr (· = b) w w') ∨
  (¬ backOK cs ms ∧ e = .returned (.int .i64 1) ∧ Fr (fun _ => False) w w')
theorem updC_maps (cs : List Cnt) (ms : List Int) (h : ms.length = cs.length) : (updC cs ms cs.length).map (·.lim) = cs.map (·.lim) ∧ (updC cs ms cs.length).map (·.used) = ms ∧ (updC cs ms cs.length).map (·.peak) = cs.map (·.peak) := by
  refine ⟨?_, ?_, ?_⟩
  · apply List.ext_getElem
    · simp [updC]
    · intro i h1 h2
      simp only [List.length_map, updC_length] at h1
      simp [updC, h1]
  · apply List.ext_getElem
    · simp [updC, h]
    · intro i h1 h2
      simp only [List.length_map, updC_length] at h1
      simp [updC, h1, List.getD_eq_getElem?_getD, h2]
  · apply List.ext_getElem
    · simp [updC]
    · intro i h1 h2
      simp only [List.length_map, updC_length] at h1
      simp [updC, h1]
theorem rback_len {w : World} {b gl gu gp : Nat} {cs : List Cnt} (av : Option Addr) (mc : Nat) (ms : List Int) (ha : RAC w b gl gu gp cs) (hm : ms.length ≤ 9223372036854775807) (hne : ms.length ≠ cs.length) :
    Calls Try.prog 25 #[.pointer (some ⟨b, 0, none⟩), .slice av ms.length mc] w (RBackPost b gl gu gp cs ms w) := by
  obtain ⟨cl, cu, cp, rl, ru, rp, a0, a1, a2, a3, hn, hl, hu, hp⟩ := ha
  have c0 := a0.cell 0
  simp only [List.getElem?_cons_zero, List.length_map] at c0
  have hd : ((ms.length : Int) != cs.length) = true := by simp; omega
  refine Calls.mono (R := fun e w' => e = .returned (.int .i64 1) ∧ w' = w) ?_ (by rintro e w' ⟨rfl, rfl⟩; exact .inr ⟨fun h => hne h.1, rfl, Fr.refl _ _⟩)
  clear a0 a1 a2 a3 hl hu hp
  go_enter Try.func25, Try.ntmps25
  go_wp2
  go_ret
  exact ⟨rfl, rfl⟩

set_option maxHeartbeats 1600000 in
set_option maxRecDepth 100000 in
theorem rback_same {w : World} {b gl gu gp : Nat} {cs : List Cnt} (lb lo mc : Nat) (ms : List Int) (ha : RAC w b gl gu gp cs) (h1 : 1 ≤ cs.length) (hlen : ms.length = cs.length) (hlb : lb < w.heap.size)
    (hms : ∀ j, j < ms.length → w.cell? ⟨lb, lo + j, none⟩ = some (.int .i64 (ms.getD j 0))) :
    Calls Try.prog 25 #[.pointer (some ⟨b, 0, none⟩), .slice (some ⟨lb, lo, none⟩) cs.length mc] w (RBackPost b gl gu gp cs ms w) := by
  obtain ⟨i0, hi, hz0, hz1, hz2⟩ := info_parts Try.info3
  have ha' := ha
  obtain ⟨cl, cu, cp, rl, ru, rp, a0, a1, a2, a3, hn, hl, hu, hp⟩ := ha'
  have h16' := hl
  simp only [List.length_map] at a0 hl h16'
  have c0 := a0.cell 0
  have c1 := a0.cell 1
  have f1 := a0.free 1
  have hbl := a0.lt
  have hgul := a2.lt
  have hgpl := a3.lt
  simp only [List.getElem?_cons_zero, List.getElem?_cons_succ] at c0 c1
  have hd : ((cs.length : Int) != cs.length) = false := by simp
  have HA := Lib.hid ha
  have HL := Lib.hid hlen
  have HM := Lib.hid hms
  have A0 := Lib.hid a0
  have A1 := Lib.hid a1
  have A3 := Lib.hid a3
  have A2 := Lib.hid a2
  have NE := Lib.hid hn
  have HC := Lib.hid (nums_cells hms)
  have NB : b ≠ gl ∧ b ≠ gu ∧ b ≠ gp := ⟨fun e => by subst e; exact absurd (blk_type a0 a1) (by decide), fun e => by subst e; exact absurd (blk_type a0 a2) (by decide), fun e => by subst e; exact absurd (blk_type a0 a3) (by decide)⟩
  clear ha hlen hms a0 a1 a2 a3 hu hp hn
  go_enter Try.func25, Try.ntmps25
  go_wp2
  go_loopw [5] (fun i wl => ∃ k : Nat, k ≤ cs.length ∧ i = .int .i64 k ∧ Drw w wl ∧ ∀ i, i < k → 0 ≤ ms.getD i 0 ∧ ms.getD i 0 ≤ (cs.getD i ⟨0, 0, 0⟩).used) (fun i _ => cs.length - (intOf i).toNat)
  case atStart => exact ⟨0, Nat.zero_le _, rfl, ⟨0, rfl⟩, fun i hi => by omega⟩
  case round =>
    obtain ⟨k, hk, rfl, hw, hok⟩ := hrel
    have HO := Lib.hid hok
    obtain ⟨m, rfl⟩ := hw
    clear hok
    by_cases hlt : k < cs.length
    · have hx := HM.out k (by have := HL.out; omega)
      have hu1 := (A2.out.cell k).trans (nums_at ru (show k < (cs.map (·.used)).length by simp; exact hlt))
      rw [map_at cs (·.used) k hlt] at hu1
      obtain ⟨x, hxe⟩ : ∃ x, ms.getD k 0 = x := ⟨_, rfl⟩
      obtain ⟨U, hUe⟩ : ∃ U, cs[k].used = U := ⟨_, rfl⟩
      rw [hxe] at hx
      simp only [hUe] at hu1
      have HX := Lib.hid hxe
      have HU := Lib.hid hUe
      clear hxe hUe
      by_cases hx0 : x < 0
      · have d1 : decide (x < 0) = true := by simpa using hx0
        have hbad : ¬ backOK cs ms := fun h => by have := (h.2 k hlt).1; rw [HX.out] at this; omega
        have P := Lib.hid (fun n => show RBackPost b gl gu gp cs ms w (.returned (.int .i64 1)) ((w.drewN m).drewN n) from .inr ⟨hbad, rfl, ((Fr.refl _ _).drewN m).drewN n⟩)
        clear hbad
        go_wp2
        go_quiet (fail)
        go_wp2
        go_ret
        exact P.out _
      · have d1 : decide (x < 0) = false := by simpa using hx0
        by_cases hxu : U < x
        · have d2 : decide (U < x) = true := by simpa using hxu
          have hbad : ¬ backOK cs ms := fun h => by have := (h.2 k hlt).2; rw [HX.out, getD_at hlt, HU.out] at this; omega
          have P := Lib.hid (fun n => show RBackPost b gl gu gp cs ms w (.returned (.int .i64 1)) ((w.drewN m).drewN n) from .inr ⟨hbad, rfl, ((Fr.refl _ _).drewN m).drewN n⟩)
          clear hbad
          go_wp2
          go_quiet (fail)
          go_wp2
          go_ret
          exact P.out _
        · have d2 : decide (U < x) = false := by simpa using hxu
          go_wp2
          go_quiet (fail)
          go_wp2
          go_roundw
          case rel => exact ⟨k + 1, by omega, by go_num, ⟨_, rfl⟩, fun i hi => by
            rcases Nat.lt_succ_iff_lt_or_eq.1 hi with h1 | rfl
            · exact HO.out i h1
            · rw [getD_at hlt, HX.out, HU.out]; omega⟩
          case measure => simp [intOf]; omega
    · obtain rfl : k = cs.length := by omega
      obtain ⟨wo, hwo⟩ : ∃ wo : World, wo = w.drewN m := ⟨_, rfl⟩
      have q0 := A0.out.drewN m
      rw [← hwo] at q0
      have q1 := A1.out.drewN m
      rw [← hwo] at q1
      have q3 := A3.out.drewN m
      rw [← hwo] at q3
      have q4 : Hid (∀ j u, (Nums ms)[j]? = some u → wo.cell? ((⟨lb, lo, none⟩ : Addr).add j) = some u) := Lib.hid (by rw [hwo]; exact HC.out)
      have q5 : Fr (fun _ => False) w wo := by rw [hwo]; exact (Fr.refl _ _).drewN m
      have q6 : wo.heap.size = w.heap.size := by rw [hwo]; rfl
      rw [← hwo]
      have Q0 := Lib.hid q0
      have Q1 := Lib.hid q1
      have Q3 := Lib.hid q3
      have Q5 := Lib.hid q5
      have Q6 := Lib.hid q6
      have e1 := q0.cell 1
      have g1 := q0.free 1
      simp only [List.getElem?_cons_zero, List.getElem?_cons_succ] at e1
      clear hwo q0 q1 q3 q5 q6 c0 c1 f1
      have hown0 := World.ownsRow_lit (base := wo.heap.size) (e := 3) (size := 1) wo #[] 0 (Nat.le_refl _) (by unfold maxLen; omega) (by simp)
      go_wp2_with (at_builtin; refine wpList_append_own _ rfl _ _ 26 rfl wo.heap.size 3 i0 (.int .i64 0) 1 8 Try.underlying26 hi hz0 hz1 hz2 rfl (by decide) _ _ _ rfl hown0 ⟨lb, lo, none⟩ cs.length mc (Nums ms) rfl (by simp [Nums]; exact HL.out) ?c1 ?c2 ?c3 ?c4 ?c5 ?_)
      case c1 =>
        intro j u hj
        have e : (⟨lb, lo, none⟩ : Addr).add j = ⟨lb, lo + j, none⟩ := by unfold Addr.add; split <;> simp_all
        have h := q4.out j u hj
        rw [e] at h
        exact (((Below.refl wo.heap.size wo).alloc (Nat.le_refl _) _).cell (p := ⟨lb, lo + j, none⟩) (by show lb < _; have := Q6.out; omega)).trans h
      case c2 => exact nums_one ms
      case c3 => unfold maxLen; omega
      case c4 => omega
      · intro v' w1 hown hgrow _
        have hF : Fr (fun i => i = wo.heap.size) wo w1 := ((Fr.refl _ wo).alloc _).trans (Fr.of_grown hgrow) (fun i _ h => by simpa [Value.ownBlock] using h.symm)
        have hown2 : w1.ownsRow wo.heap.size 3 1 v' cs.length (Nums ms) := by simpa using hown
        rcases hown2.2 with ⟨_, h0⟩ | ⟨g', cap', cur, rfl, hg', hh, h2, h3, h4, h5⟩
        · omega
        have q0 := Q0.out.fr hF (by have := Q6.out; omega)
        have q1 := Q1.out.fr hF (by have := Q1.out.lt; omega)
        have q3 := Q3.out.fr hF (by have := Q6.out; omega)
        have qu : Blk w1 g' 3 (Nums ms ++ cur.toList.drop (cs.length * 1)) := by unfold Blk; rw [hh, ← h5, List.take_append_drop]
        have e1' := q0.cell 1
        have g1' := q0.free 1
        simp only [List.getElem?_cons_zero, List.getElem?_cons_succ] at e1'
        have P : Hid (∀ w', Blk w' b 43 [.slice (some ⟨gl, 0, none⟩) cs.length cl, .slice (some ⟨g', 0, none⟩) cs.length cap', .slice (some ⟨gp, 0, none⟩) (cs.map (·.peak)).length cp] → Fr (fun i => i = b) w1 w' → RBackPost b gl gu gp cs ms w (.returned (.int .i64 0)) w') := Lib.hid (fun w' k1 k2 => by
          obtain ⟨m1, m2, m3⟩ := updC_maps cs ms HL.out
          have hs := Q6.out
          have hl1 := Q1.out.lt
          refine .inl ⟨⟨HL.out, HO.out⟩, rfl, g', by omega, ?_, ?_⟩
          · unfold RAC; rw [m1, m2, m3]
            refine ⟨cl, cap', cp, rl, cur.toList.drop (cs.length * 1), rp, ?_, q1.fr k2 (fun e => NB.1 e.symm), qu.fr k2 (by omega), q3.fr k2 (fun e => NB.2.2 e.symm), ⟨by omega, NE.out.2.1, by omega⟩, by simpa using h16', by simpa using HL.out, by simp⟩
            simpa [HL.out] using k1
          · exact ((Q5.out.mono (S' := fun i => i = b) (fun i _ h => h.elim)).trans (hF.mono (S' := fun i => i = b ∨ w.heap.size ≤ i) (fun i _ h => by omega)) (fun i hi h => by omega)).trans k2 (fun i _ h => h))
        have r1 := q0.set 1 (.slice (some ⟨g', 0, none⟩) cs.length cap')
        have P1 := Lib.hid (P.out _ (by simpa using r1) ((Fr.refl _ _).set _ _ _ rfl))
        clear hgrow hown hown2 hF q0 q1 q3 qu r1 hh h5 e1 g1
        go_wp2
        go_ret
        exact P1.out
end Go.Proofs.Ythmllfejnmbfgaa
