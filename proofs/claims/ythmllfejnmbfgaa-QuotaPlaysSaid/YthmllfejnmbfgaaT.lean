/- The law QuotaPlays at limits that make no account, and what its arguments hold. -/
import Derived.Test.YthmllfejnmbfgaaS
import Derived.SizedLaws
import Derived.WalkKit
import Derived.ProofKit
import Derived.OpenShut
import Derived.Deep.Slices
import Derived.Deep.Fields
namespace Go.Proofs.Ythmllfejnmbfgaa
open Go.ChangeShapes Go.WideShapes Go.ChangeAt Go.RowKit Go.Deep
set_option linter.unusedVariables false
set_option linter.unusedSimpArgs false

set_option maxRecDepth 100000 in
theorem plays_bad (a so : Option Addr) (c n sn sc : Nat) (kind : Int) (w : World) (h : n < 1 ∨ 16 < n) (hn : n ≤ 140737488351232) :
    Calls Try.prog 6 #[.slice a n c, .slice so sn sc, .int .i64 kind] w fun e w' => e = .returned (.bool true) ∧ Below w.heap.size w w' := by
  go_enter Try.func6, Try.ntmps6
  go_wp2_with (first
    | (go_at_call 14; refine (qnew_bad a c n h hn).mono ?_; rintro e w' ⟨rfl, rfl⟩)
    | (go_at_call 19; refine (rnew_bad a c n h hn).mono ?_; rintro e w' ⟨rfl, rfl⟩)
    | (go_at_call 13; refine (alive_any _).mono ?_; rintro e w' ⟨rfl, hbel⟩))
  go_ret
  exact ⟨rfl, hbel⟩
set_option maxRecDepth 100000 in
theorem plays_neg (lb lo lc : Nat) (zs : List Int) (so : Option Addr) (sn sc : Nat) (kind : Int) (w : World) (h1 : 1 ≤ zs.length) (h16 : zs.length ≤ 16)
    (hc : ∀ j, j < zs.length → w.cell? ⟨lb, lo + j, none⟩ = some (.int .i64 (zs.getD j 0))) (hmin : Lib.minOf (zs.take zs.length) < 0) (hneg : ∃ j, j < zs.length ∧ zs.getD j 0 < 0) :
    Calls Try.prog 6 #[.slice (some ⟨lb, lo, none⟩) zs.length lc, .slice so sn sc, .int .i64 kind] w fun e w' => e = .returned (.bool true) ∧ Below w.heap.size w w' := by
  have HC := Lib.hid hc
  have HN := Lib.hid hneg
  have HM := Lib.hid hmin
  clear hc hneg hmin
  go_enter Try.func6, Try.ntmps6
  go_wp2_with (first
    | (go_at_call 14; refine (new_neg lb lo lc zs.length zs h1 h16 (Nat.le_refl _) HC.out HM.out).mono ?_; rintro e w' ⟨rfl, rfl⟩)
    | (go_at_call 19; refine (rnew_neg lb lo lc zs h1 h16 HC.out HN.out).mono ?_; rintro e w' ⟨rfl, rfl⟩)
    | (go_at_call 13; refine (alive_any _).mono ?_; rintro e w' ⟨rfl, hbel⟩))
  go_ret
  exact ⟨rfl, hbel⟩
theorem foldl_min_le : ∀ (l : List Int) (a : Int), l.foldl min a ≤ a ∧ ∀ x ∈ l, l.foldl min a ≤ x
  | [], a => ⟨Int.le_refl _, by simp⟩
  | y :: l, a => by
    obtain ⟨h1, h2⟩ := foldl_min_le l (min a y)
    simp only [List.foldl_cons]
    refine ⟨by omega, fun x hx => ?_⟩
    rcases List.mem_cons.1 hx with rfl | hx
    · omega
    · exact h2 x hx
theorem foldl_min_mem : ∀ (l : List Int) (a : Int), l.foldl min a = a ∨ l.foldl min a ∈ l
  | [], a => .inl rfl
  | y :: l, a => by
    simp only [List.foldl_cons]
    rcases foldl_min_mem l (min a y) with h | h
    · rw [h]
      by_cases q : a ≤ y
      · exact .inl (by omega)
      · exact .inr (List.mem_cons.2 (.inl (by omega)))
    · exact .inr (List.mem_cons_of_mem _ h)
theorem minOf_neg {zs : List Int} (h : Lib.minOf (zs.take zs.length) < 0) : ∃ j, j < zs.length ∧ zs.getD j 0 < 0 := by
  rw [List.take_length] at h
  unfold Lib.minOf at h
  have hm : ∃ x ∈ zs, x < 0 := by
    rcases foldl_min_mem zs (zs.headD 0) with e | e
    · rw [e] at h
      cases zs with
      | nil => simp at h
      | cons z zs => exact ⟨z, by simp, h⟩
    · exact ⟨_, e, h⟩
  obtain ⟨x, hx, hn⟩ := hm
  obtain ⟨j, hj, rfl⟩ := List.mem_iff_getElem.1 hx
  exact ⟨j, hj, by simpa [List.getD_eq_getElem?_getD, hj] using hn⟩
theorem minOf_pos {zs : List Int} (h : ¬ Lib.minOf (zs.take zs.length) < 0) : ∀ j, j < zs.length → 0 ≤ zs.getD j 0 := by
  rw [List.take_length] at h
  unfold Lib.minOf at h
  intro j hj
  have := (foldl_min_le zs (zs.headD 0)).2 zs[j] (List.getElem_mem hj)
  simp only [List.getD_eq_getElem?_getD, List.getElem?_eq_getElem hj, Option.getD_some]
  omega

/-! An argument that is a slice of structs of fields of one cell (from the guide's page on structs). -/
section
variable {H : Type} {enc : TypeId × Value → H} {P : Program} {w : World} {base : Nat} {spare : Nat → Bool} {held : Bool}
theorem open_slice_fields {t e : TypeId} {fs : Array Field} {fuel : Nat} {cs : List Value} {x : DataW H × List MemPlace} (ht : P.underlying t = some (.slice e)) (he : P.underlying e = some (.struct fs))
    (hone : oneCellFields P fs = true) (hC : P.cellsOf e = fs.size) (h : DataW.trod enc P w base spare held fuel t cs = some x) :
    (cs = [.slice none 0 0] ∧ x = (.nil, [])) ∨
    ∃ (a : Addr) (len cap m : Nat) (D : Nat → DataW H) (Pl : Nat → List MemPlace), cs = [.slice (some a) len cap] ∧ base ≤ a.block ∧ len ≤ cap ∧ cap ≤ maxLen ∧ m = (if spare a.block then cap else len) ∧
      x = (.slice ((List.range len).map D) ((List.range (m - len)).map fun j => D (len + j)), MemPlace.row a (m * fs.size) ++ (List.range m).flatMap Pl) ∧
      ∀ i, i < m → ∃ (ys : List (DataW H × List MemPlace)) (n : Nat), D i = .agg (ys.map (·.1)) ∧ Pl i = ys.flatMap (·.2) ∧ ys.length = fs.size ∧
        ∀ (j : Nat) (f : Field), fs[j]? = some f → ∃ (v : Value) (y : DataW H × List MemPlace), w.cell? (a.add (i * fs.size + j)) = some v ∧ ys[j]? = some y ∧ DataW.trod enc P w base spare held n f.type [v] = some y := by
  rcases open_slice ht h with h0 | ⟨a, len, cap, m, n, D, Pl, hcs, hb, hl, hm, hmm, hx, hi⟩
  · exact .inl h0
  · refine .inr ⟨a, len, cap, m, D, Pl, hcs, hb, hl, hm, hmm, by rw [hC] at hx; exact hx, fun i him => ?_⟩
    obtain ⟨cs', hc, ht'⟩ := hi i him
    rw [hC] at hc
    obtain ⟨ys, n', hn', hy, hlen, hyl, hf⟩ := DataW.trod_struct he ht'
    obtain ⟨_, hcl, hat⟩ := World.cells?_some hc
    simp only [Prod.mk.injEq] at hy
    refine ⟨ys, n', hy.1, hy.2, hyl, fun j f hj => ?_⟩
    obtain ⟨ho, hk⟩ := hone_of hone j f hj
    have hjl : j < fs.size := (Array.getElem?_eq_some_iff.1 hj).1
    have hcell := hat j hjl
    have hv : cs'[j]? = some (cs'[j]'(by omega)) := List.getElem?_eq_getElem (by omega)
    have h1 := hf j f hj
    rw [ho, hk] at h1
    have hone' : (cs'.drop j).take 1 = [cs'[j]'(by omega)] := by
      rw [List.drop_eq_getElem_cons (by omega)]
      rfl
    rw [hone'] at h1
    have hys : ys[j]? = some (ys[j]'(by omega)) := List.getElem?_eq_getElem (by omega)
    refine ⟨_, _, ?_, hys, h1.trans hys⟩
    rw [← Go.Deep.add_add, hcell, hv]
end
/-- What is told of the script. -/
def IsScript (w : World) (so : Option Addr) (n : Nat) : Prop :=
  ∃ os : List OpX, os.length = n ∧ (0 < os.length → ∃ sb sf : Nat, so = some ⟨sb, sf, none⟩ ∧ sb < w.heap.size ∧ ∀ j (h : j < os.length), OpAt w sb (sf + j * 4) os[j])
instance : Inhabited OpX := ⟨⟨0, 0, 0, none, 0, []⟩⟩
theorem addr_of_cell {w : World} {a : Addr} {v : Value} (h : w.cell? (a.add 0) = some v) : ∃ b o, a = ⟨b, o, none⟩ := by
  obtain ⟨b, o, p⟩ := a
  have hspot : p = none := by simpa [Addr.add] using World.cell?_spot h
  subst hspot
  exact ⟨b, o, rfl⟩
end Go.Proofs.Ythmllfejnmbfgaa
