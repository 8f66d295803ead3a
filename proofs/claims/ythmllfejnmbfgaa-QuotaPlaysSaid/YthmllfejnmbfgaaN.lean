/- Contracts of Ints of the law and of the account's Mark. -/
import Derived.Test.YthmllfejnmbfgaaM
namespace Go.Proofs.Ythmllfejnmbfgaa
open Go.RowKit
set_option linter.unusedVariables false
set_option linter.unusedSimpArgs false

def Drw (w w' : World) : Prop := ∃ m, w' = w.drewN m
theorem Drw.step {w w' : World} (h : Drw w w') (n : Nat) : Drw w (w'.drewN n) := by
  obtain ⟨m, rfl⟩ := h
  exact ⟨m + n, World.drewN_drewN ..⟩
theorem ints_eq {w : World} (a1 a2 : Option Addr) (c1 c2 : Nat) (xs : List Int) (h1 : ICells w a1 xs) (h2 : ICells w a2 xs) (hm : xs.length ≤ 9223372036854775807) :
    Calls Try.prog 23 #[.slice a1 xs.length c1, .slice a2 xs.length c2] w fun e w' => e = .returned (.bool true) ∧ Drw w w' := by
  have hd : ((xs.length : Int) != xs.length) = false := by simp
  go_enter Try.func23, Try.ntmps23
  go_wp2
  go_loopw [5] (fun i wr => ∃ k : Nat, k ≤ xs.length ∧ i = .int .i64 k ∧ Drw w wr) (fun i _ => xs.length - (intOf i).toNat)
  case atStart => exact ⟨0, Nat.zero_le _, rfl, 0, rfl⟩
  case round =>
    obtain ⟨k, hk, rfl, hw⟩ := hrel
    have HW := Lib.hid hw
    obtain ⟨m, rfl⟩ := hw
    by_cases hlt : k < xs.length
    · obtain ⟨b1, o1, rfl, _, hc1⟩ := h1 (by omega)
      obtain ⟨b2, o2, rfl, _, hc2⟩ := h2 (by omega)
      have d1 := hc1 k hlt
      have d2 := hc2 k hlt
      clear hc1 hc2 h1 h2
      generalize xs.getD k 0 = x at *
      have hx : (x != x) = false := by simp
      go_wp2
      go_quiet (fail)
      go_wp2
      go_roundw
      case rel => exact ⟨k + 1, by omega, by go_num, _, rfl⟩
      case measure => simp [intOf]; omega
    · go_wp2
      go_ret
      exact ⟨rfl, HW.out⟩

set_option maxHeartbeats 1600000 in
set_option maxRecDepth 100000 in
theorem mark_any {w : World} {a g : Nat} {cs : List Cnt} (ha : Acct w a g cs) (h1 : 1 ≤ cs.length) :
    Calls Try.prog 22 #[.pointer (some ⟨a, 0, none⟩)] w fun e w' => ∃ v, e = .returned v ∧ IRow w' w.heap.size v (cs.map (·.used)) ∧ Below w.heap.size w w' := by
  obtain ⟨i0, hi, hz0, hz1, hz2⟩ := info_parts Try.info3
  obtain ⟨hne, h16, cap, rest, hc, hm, hB, hG⟩ := ha
  have c0 := hB.cell 0
  simp only [List.getElem?_cons_zero] at c0
  have hgl := hG.lt
  have HG := Lib.hid hG
  clear hG hB
  obtain ⟨B, hB⟩ : ∃ B, B = w.heap.size := ⟨_, rfl⟩
  rw [← hB]
  have HB := Lib.hid hB
  go_enter Try.func22, Try.ntmps22
  go_wp2
  clear hB
  go_loopw [2, 12] (fun v i wr => ∃ k : Nat, k ≤ cs.length ∧ i = .int .i64 k ∧ wr.ownsRow B 3 1 v k (Nums ((cs.map (·.used)).take k)) ∧ Below B w wr) (fun _ i _ => cs.length - (intOf i).toNat)
  case atStart => exact ⟨0, Nat.zero_le _, rfl, ⟨rfl, .inl ⟨rfl, rfl⟩⟩, by rw [HB.out]; exact Below.refl _ _⟩
  case round =>
    obtain ⟨k, hk, rfl, hown, hbel⟩ := hrel
    by_cases hlt : k < cs.length
    · obtain ⟨f0, f1, f2⟩ := flat_at cs rest k hlt
      have q : ∀ j, wr.cell? ⟨g, j, none⟩ = w.cell? ⟨g, j, none⟩ := fun j => hbel.cell (p := ⟨g, j, none⟩) (by show g < B; have := HB.out; omega)
      have e0 := ((q (k * 3)).trans (HG.out.cell _)).trans f0
      have e1 := ((q (k * 3 + 1)).trans (HG.out.cell _)).trans f1
      have e2 := ((q (k * 3 + 2)).trans (HG.out.cell _)).trans f2
      clear q f0 f1 f2
      have hsn : Hid (Nums ((cs.map (·.used)).take (k + 1)) = Nums ((cs.map (·.used)).take k) ++ [.int .i64 cs[k].used]) := Lib.hid (by
        rw [List.take_succ_eq_append_getElem (by simpa using hlt)]; simp [Nums])
      generalize cs[k].used = U at *
      generalize cs[k].lim = L at *
      generalize cs[k].peak = P at *
      have hsz : B ≤ wr.heap.size := by have := hbel.size; have := HB.out; omega
      go_wp2_with (at_builtin; refine wpList_append_own _ rfl _ _ 26 rfl B 3 i0 (.int .i64 0) 1 8 Try.underlying26 hi hz0 hz1 hz2 rfl (by decide) _ _ _ rfl ((hown.alloc _).alloc _) ⟨wr.heap.size + 1, 0, none⟩ 1 1 [.int .i64 U] rfl rfl ?c1 ?c2 ?c3 ?c4 ?c5 ?_)
      case c2 => rfl
      case c3 => unfold maxLen; omega
      case c4 => omega
      case c5 => omega
      · intro v' w1 hown' hgrow _
        have hF : Fr (fun i => u2.ownBlock = some i) wr w1 := (((Fr.refl _ wr).alloc _).alloc _).trans (Fr.of_grown hgrow) (fun _ _ h => h)
        have hbel1 : Below B w w1 := hbel.trans (hF.below hsz (fun i hi => by
          rcases hown.2 with ⟨rfl, _⟩ | ⟨g', cap, cur, rfl, hg', _⟩
          · simp [Value.ownBlock] at hi
          · simp [Value.ownBlock] at hi; omega))
        rw [← hsn.out] at hown'
        have R := Lib.hid (And.intro hown' hbel1)
        clear hgrow hown' hF hbel1 hown hbel e0 e1 e2
        go_wp2
        go_roundw
        case rel => exact ⟨k + 1, by omega, by go_num, R.out.1, R.out.2⟩
        case measure => simp [intOf]; omega
    · obtain rfl : k = cs.length := by omega
      have R := Lib.hid (And.intro hown hbel)
      rcases hown.2 with ⟨_, h0⟩ | ⟨g', cap', cur, rfl, hg', hh, h2, h3, h4, h5⟩
      · omega
      · have hr : IRow wr B (.slice (some ⟨g', 0, none⟩) cs.length cap') (cs.map (·.used)) := irow_own (by have := R.out.1; rw [List.take_of_length_le (by simp)] at this; exact this) (by simp) h1
        have HR := Lib.hid hr
        clear hr hown hbel hh h5 h4
        go_wp2
        go_ret
        exact ⟨_, rfl, HR.out, R.out.2⟩
end Go.Proofs.Ythmllfejnmbfgaa
