/- A row's world and its things, opened. -/
import Derived.Test.YtndjjnnljihmnaaGreatGmO
import Derived.Test.YtndjjnnljihmnaaGreatGmT
import Derived.WideShapes
namespace Go.Proofs.YtndjjnnljihmnaaGreat
open Go.RowKit
open Go.ChangeShapes
set_option linter.unusedVariables false
set_option linter.unusedSimpArgs false
theorem list_of {α : Type} {Q : Nat → α → Prop} : ∀ n, (∀ i, i < n → ∃ a, Q i a) → ∃ l : List α, l.length = n ∧ ∀ (j : Nat) (h : j < l.length), Q j l[j]
  | 0, _ => ⟨[], rfl, fun j h => absurd h (by simp)⟩
  | n + 1, h => by
    obtain ⟨l, h1, h2⟩ := list_of n (fun i hi => h i (by omega))
    obtain ⟨a, ha⟩ := h n (by omega)
    refine ⟨l ++ [a], by simp [h1], fun j hj => ?_⟩
    by_cases hl : j < l.length
    · rw [List.getElem_append_left hl]; exact h2 j hl
    · have e : j = l.length := by simp at hj; omega
      subst e
      rw [List.getElem_append_right (Nat.le_refl _)]
      simp only [Nat.sub_self, List.getElem_cons_zero]
      rw [h1]; exact ha
section
variable {H : Type} {enc : TypeId × Value → H} {w : World}
theorem open_ints {fuel : Nat} {cs : List Value} {x : DataW H × List MemPlace} (h : DataW.trod enc Tryz.prog w 0 (fun _ => true) true fuel 34 cs = some x) : ∃ (A : Option Addr) (c : Nat) (l : List Int), cs = [.slice A l.length c] ∧ Nts w A l := by
  rcases DataW.trod_slice Tryz.underlying34 h with ⟨e2, rfl⟩ | ⟨a, len, cap, elems, rest, m, rfl, e2, rfl, _, hlc, hcm, hlen, hel, _⟩
  · exact ⟨none, 0, [], e2, Nts.nil _ _⟩
  · rw [show Tryz.prog.cellsOf 3 = 1 from by kernel_rfl] at hel
    obtain ⟨l, h1, h2⟩ := list_of (Q := fun i n => w.cell? ⟨a.block, a.off + i, none⟩ = some (.int .i64 n)) len (fun i hi => by
      have h1 := hel i hi
      rw [List.getElem?_eq_getElem (by omega), Option.bind_eq_some_iff] at h1
      obtain ⟨cs, hc, ht⟩ := h1
      have h0 := hel 0 (by omega)
      rw [List.getElem?_eq_getElem (by omega), Option.bind_eq_some_iff] at h0
      obtain ⟨cs0, hc0, _⟩ := h0
      obtain ⟨n, rfl, _, _⟩ := DataW.trod_int Tryz.underlying3 ht
      have := (opened_row (m := 0) hc (by omega) (opened_spot hc0 (by omega))).2 0 _ rfl
      exact ⟨n, by simpa using this⟩)
    refine ⟨some a, cap, l, by rw [e2, h1], fun hn => ?_⟩
    have h0 := hel 0 (by omega)
    rw [List.getElem?_eq_getElem (by omega), Option.bind_eq_some_iff] at h0
    obtain ⟨cs0, hc0, _⟩ := h0
    have hs := opened_spot hc0 (by omega)
    refine ⟨a.block, a.off, ?_, h2⟩
    obtain ⟨b, o, s⟩ := a
    simp only at hs
    subst hs
    rfl
theorem open_thing {fuel : Nat} {cs : List Value} {x : DataW H × List MemPlace} (h : DataW.trod enc Tryz.prog w 0 (fun _ => true) true fuel 40 cs = some x) : ∃ p : ByteArray × Int, cs = [.string p.1, .int .i64 p.2] := by
  obtain ⟨xs, n, rfl, rfl, hcl, hxl, hx⟩ := DataW.trod_struct Tryz.underlying40 h
  rw [show Tryz.prog.cellsOf 40 = 2 from by kernel_rfl] at hcl
  obtain ⟨c0, c1, rfl⟩ : ∃ c0 c1, cs = [c0, c1] := by
    rcases cs with _ | ⟨a, _ | ⟨b, _ | ⟨c, r⟩⟩⟩ <;> simp at hcl
    exact ⟨a, b, rfl⟩
  obtain ⟨x0, x1, rfl⟩ : ∃ x0 x1, xs = [x0, x1] := by
    rcases xs with _ | ⟨a, _ | ⟨b, _ | ⟨c, r⟩⟩⟩ <;> simp at hxl
    exact ⟨a, b, rfl⟩
  have g0 := hx 0 _ rfl
  have g1 := hx 1 _ rfl
  have k0 : Tryz.prog.cellsOf 3 = 1 := by kernel_rfl
  have k1 : Tryz.prog.cellsOf 9 = 1 := by kernel_rfl
  simp only [List.getElem_toArray, List.getElem_cons_zero, List.getElem_cons_succ, k0, k1, List.drop_zero, List.take_succ_cons, List.take_zero, List.drop_succ_cons, List.getElem?_cons_zero, List.getElem?_cons_succ] at g0 g1
  obtain ⟨f, e0, rfl, _⟩ := DataW.trod_string Tryz.underlying9 g0
  obtain ⟨v, e1, rfl, _⟩ := DataW.trod_int Tryz.underlying3 g1
  obtain rfl := (List.cons.inj e0).1
  obtain rfl := (List.cons.inj e1).1
  exact ⟨(f, v), rfl⟩
theorem open_things {fuel : Nat} {cs : List Value} {x : DataW H × List MemPlace} (h : DataW.trod enc Tryz.prog w 0 (fun _ => true) true fuel 37 cs = some x) : ∃ (B : Option Addr) (cB : Nat) (l : List (ByteArray × Int)), cs = [.slice B l.length cB] ∧ Ths w B l ∧ ((B = none ∧ l = [] ∧ cB = 0) ∨ ∃ a, B = some a) := by
  rcases DataW.trod_slice Tryz.underlying37 h with ⟨e2, rfl⟩ | ⟨a, len, cap, elems, rest, m, rfl, e2, rfl, _, hlc, hcm, hlen, hel, _⟩
  · exact ⟨none, 0, [], e2, fun h0 => absurd h0 (by simp), Or.inl ⟨rfl, rfl, rfl⟩⟩
  · rw [show Tryz.prog.cellsOf 40 = 2 from by kernel_rfl] at hel
    obtain ⟨l, h1, h2⟩ := list_of (Q := fun i (p : ByteArray × Int) => w.cell? ⟨a.block, a.off + i * 2, none⟩ = some (.string p.1) ∧ w.cell? ⟨a.block, a.off + i * 2 + 1, none⟩ = some (.int .i64 p.2)) len (fun i hi => by
      have h1 := hel i hi
      rw [List.getElem?_eq_getElem (by omega), Option.bind_eq_some_iff] at h1
      obtain ⟨cs, hc, ht⟩ := h1
      have h0 := hel 0 (by omega)
      rw [List.getElem?_eq_getElem (by omega), Option.bind_eq_some_iff] at h0
      obtain ⟨cs0, hc0, _⟩ := h0
      obtain ⟨p, rfl⟩ := open_thing ht
      have hr := (opened_row (m := 0) hc (by omega) (opened_spot hc0 (by omega))).2
      exact ⟨p, by simpa using hr 0 _ rfl, by simpa using hr 1 _ rfl⟩)
    refine ⟨some a, cap, l, by rw [e2, h1], fun hn => ?_, Or.inr ⟨a, rfl⟩⟩
    have h0 := hel 0 (by omega)
    rw [List.getElem?_eq_getElem (by omega), Option.bind_eq_some_iff] at h0
    obtain ⟨cs0, hc0, _⟩ := h0
    have hs := opened_spot hc0 (by omega)
    refine ⟨a.block, a.off, ?_, h2⟩
    obtain ⟨b, o, s⟩ := a
    simp only at hs
    subst hs
    rfl
end
theorem open_world {H : Type} {enc : TypeId × Value → H} {w : World} {v : Value} {d : DataW H} {p : List MemPlace} (hv : ∃ cs : List Value, v = .agg cs.toArray ∧ v.cells.toList = cs) (h : DataW.Trod enc Tryz.prog w 0 (fun _ => true) true 36 v d p) : ∃ (s : Int) (A : Option Addr) (c : Nat) (rl : List Int), v = .agg #[.int .i64 s, .slice A rl.length c] ∧ Nts w A rl := by
  obtain ⟨cs, rfl, hcs⟩ := hv
  obtain ⟨fuel, hf⟩ := h
  rw [hcs] at hf
  obtain ⟨xs, n, rfl, _, hcl, hxl, hx⟩ := DataW.trod_struct Tryz.underlying36 hf
  rw [show Tryz.prog.cellsOf 36 = 2 from by kernel_rfl] at hcl
  obtain ⟨c0, c1, rfl⟩ : ∃ c0 c1, cs = [c0, c1] := by
    rcases cs with _ | ⟨a, _ | ⟨b, _ | ⟨c, r⟩⟩⟩ <;> simp at hcl
    exact ⟨a, b, rfl⟩
  obtain ⟨x0, x1, rfl⟩ : ∃ x0 x1, xs = [x0, x1] := by
    rcases xs with _ | ⟨a, _ | ⟨b, _ | ⟨c, r⟩⟩⟩ <;> simp at hxl
    exact ⟨a, b, rfl⟩
  have g0 := hx 0 _ rfl
  have g1 := hx 1 _ rfl
  have k0 : Tryz.prog.cellsOf 3 = 1 := by kernel_rfl
  have k1 : Tryz.prog.cellsOf 34 = 1 := by kernel_rfl
  simp only [List.getElem_toArray, List.getElem_cons_zero, List.getElem_cons_succ, k0, k1, List.drop_zero, List.take_succ_cons, List.take_zero, List.drop_succ_cons, List.getElem?_cons_zero, List.getElem?_cons_succ] at g0 g1
  obtain ⟨s, e0, rfl, _⟩ := DataW.trod_int Tryz.underlying3 g0
  obtain ⟨A, c, rl, e1, hN⟩ := open_ints g1
  obtain rfl := (List.cons.inj e0).1
  obtain rfl := (List.cons.inj e1).1
  exact ⟨s, A, c, rl, rfl, hN⟩
end Go.Proofs.YtndjjnnljihmnaaGreat
