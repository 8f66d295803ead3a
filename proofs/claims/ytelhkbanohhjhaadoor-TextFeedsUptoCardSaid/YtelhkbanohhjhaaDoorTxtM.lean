/- How a row's slices are opened; the walk of TextValid. -/
import Derived.Test.YtelhkbanohhjhaaDoorTxtL
import Derived.Test.YtelhkbanohhjhaaDoorRows
import Derived.Test.YtelhkbanohhjhaaDoorCards
import Derived.Test.YtelhkbanohhjhaaDoorTie
import Derived.WalkKit
import Derived.ProofKit
import Derived.OpenShut
import Derived.ShutString
import Derived.ChangeOld
import Derived.Below
import Derived.SizedLaws
namespace Go.Proofs.YtelhkbanohhjhaaDoor.Tx
open Go.RowKit Go.Shelf Go.Proofs.YtelhkbanohhjhaaDoor.PFeed Go.Proofs.YtelhkbanohhjhaaDoorW.PrintWords
open Go.ChangeShapes Go.WideShapes Go.ChangeAt
set_option linter.unusedVariables false
set_option linter.unusedSimpArgs false
theorem bulk_lits {H : Type} (k : IntKind) : ∀ l : List Int, Rows.uptoBulkAll (lits (H := H) k l) = l.length
  | [] => rfl
  | x :: l => by
    have := bulk_lits (H := H) k l
    simp only [lits, List.map_cons, Rows.uptoBulkAll, Rows.uptoBulk, List.length_cons] at this ⊢
    omega
/-- A slice of integers that a row's call is given. -/
structure Handed {H : Type} (k : IntKind) (W : World) (A : Option Addr) (len c : Nat) (d : DataW H) (l : List Int) : Prop where
  n : l.length = len
  le : len ≤ c
  cells : Kd.C (Kd.int k) W A l.length l
  wf : ∀ z ∈ l, (Lit.int k z).wf = true
  nil : A = none → c = 0
  bulk : l.length + 1 ≤ Rows.uptoBulk d
  lt : ∀ a, A = some a → 0 < l.length → a.block < W.heap.size
theorem open_row {H : Type} {enc : TypeId × Value → H} {W : World} {t e : TypeId} {k : IntKind} {A : Option Addr} {len c : Nat} {d : DataW H} {p : List MemPlace} (ht : Tryd.prog.underlying t = some (.slice e)) (he : Tryd.prog.underlying e = some (.int k)) (hc : Tryd.prog.cellsOf e = 1)
    (h : DataW.Trod enc Tryd.prog W 0 (fun _ => true) true t (.slice A len c) d p) : ∃ l, Handed k W A len c d l := by
  obtain ⟨fuel, hf⟩ := h
  rcases open_ints ht he hc hf with ⟨hcs, hx⟩ | ⟨x, l, cc, zs, hcs, _, hl, hm, hz, hx, hcell, hwz⟩
  · simp [Value.cells] at hcs
    obtain ⟨rfl, rfl, rfl⟩ := hcs
    obtain ⟨rfl, _⟩ := Prod.mk.inj hx
    exact ⟨[], rfl, Nat.le_refl _, ⟨rfl, by decide, fun h => absurd h (by decide)⟩, fun z hz => (by cases hz), fun _ => rfl, (by simp [Rows.uptoBulk]), fun a h => (by cases h)⟩
  · simp [Value.cells] at hcs
    obtain ⟨rfl, rfl, rfl⟩ := hcs
    obtain ⟨rfl, _⟩ := Prod.mk.inj hx
    simp only [if_true] at hz
    have hlt : (zs.take len).length = len := by simp; omega
    have hcell' : ∀ j z, (zs.take len)[j]? = some z → W.cell? (x.add j) = some (.int k z) := by
      intro j z hj
      have h1 := (List.getElem?_eq_some_iff.1 hj).1
      rw [List.getElem?_take_of_lt (by omega)] at hj
      have h2 := hcell j (by omega)
      rw [List.getD_eq_getElem?_getD, hj] at h2
      exact h2
    refine ⟨zs.take len, hlt, hl, ⟨rfl, by unfold maxLen at hm; omega, fun _ => ⟨_, rfl, fun j z hj => ⟨[.int k z], rfl, rfl, fun i u hu => ?_⟩⟩⟩, fun z hz => hwz z (List.mem_of_mem_take hz), fun h => (by cases h), ?_, fun a ha h0 => ?_⟩
    · have hi : i = 0 := by
        have := (List.getElem?_eq_some_iff.1 hu).1
        simp at this; exact this
      subst hi
      simp at hu
      subst hu
      show W.cell? (x.add (j * 1 + 0)) = _
      rw [Nat.mul_one, Nat.add_zero]
      exact hcell' j z hj
    · simp only [Rows.uptoBulk, bulk_lits]; omega
    · cases ha
      have h1 := hcell' 0 ((zs.take len)[0]'h0) (List.getElem?_eq_getElem h0)
      have := World.block_lt_of_cell? W _ h1
      simpa [Addr.add] using this
theorem byt_of {l : List Int} (h : ∀ z ∈ l, (Lit.int .u8 z).wf = true) : Byt l := fun z hz => by
  have := h z hz
  simp [Lit.wf, IntKind.wrap] at this
  have e1 : IntKind.u8.min = 0 := rfl
  have e2 : IntKind.u8.max = 255 := rfl
  rw [e1, e2] at this
  omega
theorem good_of_C {w : World} {T : Nat → Prop} {A : Option Addr} {c : Nat} {l : List Int} (hC : Kd.C (Kd.int .u8) w A l.length l) (hT : ∀ a, A = some a → 0 < l.length → T a.block) (hc : l.length ≤ c) (hl : l.length ≤ 1048576) (hbyt : Byt l) (hA : A = none → c = 0) : It.good w T ⟨A, c, l, false⟩ := by
  refine ⟨hc, hl, hbyt, fun W' hk => ?_, hA⟩
  obtain ⟨h1, h2, h3⟩ := hC
  refine ⟨h1, h2, fun h0 => ?_⟩
  obtain ⟨ad, e, hcell⟩ := h3 h0
  refine ⟨ad, e, fun j p hp => ?_⟩
  obtain ⟨cs, g1, g2, g3⟩ := hcell j p hp
  refine ⟨cs, g1, g2, fun i u hu => ?_⟩
  rw [← g3 i u hu]
  have hh := hk.1 ad.block (hT ad e h0)
  have hb : ∀ n, (ad.add n).block = ad.block := fun n => by unfold Addr.add; split <;> rfl
  unfold World.cell?
  rw [hb, hh]

theorem valid_walk (A : Option Addr) (c : Nat) (l : List Int) (w : World) (m : Int) (hl : l.length ≤ 1048576) (hc : l.length ≤ c) (hr : Kd.C (Kd.int .u8) w A l.length l) (hm : w.cell? ⟨0, 0, none⟩ = some (.int .i64 m)) :
    Calls Tryd.prog 3 #[.slice A l.length c] w fun e w' => e = .returned (.bool true) ∧ Below w.heap.size w w' := by
  have HV := Lib.hid (valid_any A c l w hl hc hr)
  have HR := Lib.hid hr
  have HM := Lib.hid hm
  have HC := Lib.hid hc
  have HL := Lib.hid hl
  clear hr hm hc hl
  go_enter Tryd.func3, Tryd.ntmps3
  go_wp2_with fail
  refine HV.out.mono ?_
  rintro e w1 ⟨rfl, hd1⟩
  have HR1 := Lib.hid (c_drawn HR.out hd1)
  obtain ⟨n1, rfl⟩ := hd1
  have HB1 : Hid (Below w.heap.size w (w.drewN n1)) := Lib.hid (((Fr.refl (fun _ => False) w).drewN n1).below (Nat.le_refl _) (fun _ h => h.elim))
  have HM1 : Hid ((w.drewN n1).cell? ⟨0, 0, none⟩ = some (.int .i64 m)) := Lib.hid HM.out
  generalize w.drewN n1 = w1 at *
  go_wp2_with fail
  refine (PFeed.assizeref01_Valid.calls (l.length + 7) A c l (validB l) w1 HR1.out HC.out (p_valid l (by have := HL.out; omega))).mono ?_
  rintro e w2 ⟨rfl, hd2⟩
  obtain ⟨n2, rfl⟩ := hd2
  have HB2 : Hid (Below w.heap.size w (w1.drewN n2)) := Lib.hid (HB1.out.trans (((Fr.refl (fun _ => False) w1).drewN n2).below HB1.out.size (fun _ h => h.elim)))
  have HM2 : Hid ((w1.drewN n2).cell? ⟨0, 0, none⟩ = some (.int .i64 m)) := Lib.hid HM1.out
  generalize w1.drewN n2 = w2 at *
  generalize validB l = b
  cases b
  all_goals
    go_wp2_with fail
    refine (alive_any w2 m HM2.out).mono ?_
    rintro e w3 ⟨rfl, hb3⟩
    have HB3 := Lib.hid (HB2.out.trans (hb3.mono HB2.out.size))
    clear hb3
    go_wp2_with fail
    go_ret
    exact ⟨rfl, HB3.out⟩
theorem valid_row {H : Type} (A : Option Addr) (c : Nat) (l : List Int) (w : World) (m : Int) (hl : l.length ≤ 1048576) {d : DataW H} (h : Handed .u8 w A l.length c d l) (hm : w.cell? ⟨0, 0, none⟩ = some (.int .i64 m)) :
    Calls Tryd.prog 3 #[.slice A l.length c] w fun e w' => e = .returned (.bool true) ∧ Below w.heap.size w w' := valid_walk A c l w m hl h.le h.cells hm
end Go.Proofs.YtelhkbanohhjhaaDoor.Tx
