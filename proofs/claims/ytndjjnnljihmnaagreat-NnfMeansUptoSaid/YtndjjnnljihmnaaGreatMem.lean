/- Blocks of cells in memory, and frames: small lemmas over any world. -/
import Derived.WalkKit
import Derived.Below
import Derived.Deep.Draws
namespace Go.Proofs.YtndjjnnljihmnaaGreat
open Go.RowKit
set_option linter.unusedVariables false
set_option linter.unusedSimpArgs false

/-! ### blocks of cells -/
def Blk (w : World) (g : Nat) (T : TypeId) (vs : List Value) : Prop := w.heap[g]? = some (.cells vs.toArray T (0, 0))
theorem Blk.cell {w : World} {g : Nat} {T : TypeId} {vs : List Value} (h : Blk w g T vs) (i : Nat) : w.cell? ⟨g, i, none⟩ = vs[i]? := by
  unfold Blk at h
  simp [World.cell?, h]
theorem Blk.free {w : World} {g : Nat} {T : TypeId} {vs : List Value} (h : Blk w g T vs) (i : Nat) : w.frozen? ⟨g, i, none⟩ = false := by
  unfold Blk at h
  simp [World.frozen?, h]
theorem Blk.lt {w : World} {g : Nat} {T : TypeId} {vs : List Value} (h : Blk w g T vs) : g < w.heap.size :=
  (Array.getElem?_eq_some_iff.1 h).1
theorem Blk.drew {w : World} {g : Nat} {T : TypeId} {vs : List Value} (h : Blk w g T vs) : Blk w.drew g T vs := h
theorem Blk.drewN {w : World} {g : Nat} {T : TypeId} {vs : List Value} (h : Blk w g T vs) (n : Nat) : Blk (w.drewN n) g T vs := h
theorem Blk.set {w : World} {g : Nat} {T : TypeId} {vs : List Value} (h : Blk w g T vs) (i : Nat) (v : Value) : Blk (w.setCell ⟨g, i, none⟩ v) g T (vs.set i v) := by
  unfold Blk at *
  simp [World.setCell, Array.getElem?_modify, h]
theorem Blk.other {w : World} {g : Nat} {T : TypeId} {vs : List Value} (h : Blk w g T vs) (a : Addr) (v : Value) (hne : a.block ≠ g) : Blk (w.setCell a v) g T vs := by
  unfold Blk at *
  simp [World.setCell, Array.getElem?_modify, h, hne]
theorem Blk.below {w w' : World} {g B : Nat} {T : TypeId} {vs : List Value} (h : Blk w g T vs) (hb : Below B w w') (hg : g < B) : Blk w' g T vs :=
  (hb.block g hg).trans h
theorem Blk.alloc {w : World} {g : Nat} {T : TypeId} {vs : List Value} (h : Blk w g T vs) (o : Obj) : Blk (w.alloc o) g T vs := by
  have hl := h.lt
  unfold Blk at *
  simp only [World.alloc]
  rw [Array.getElem?_push, if_neg (by omega)]; exact h

/-- What lay in memory stands, but for the blocks of S. -/
structure Fr (S : Nat → Prop) (w w' : World) : Prop where
  os : w'.os = w.os
  tape : w'.tape = w.tape
  output : w'.output = w.output
  size : w.heap.size ≤ w'.heap.size
  block : ∀ k, k < w.heap.size → ¬ S k → w'.heap[k]? = w.heap[k]?
theorem Fr.refl (S : Nat → Prop) (w : World) : Fr S w w := ⟨rfl, rfl, rfl, Nat.le_refl _, fun _ _ _ => rfl⟩
theorem Fr.trans {S S' : Nat → Prop} {w w1 w2 : World} (h : Fr S w w1) (h' : Fr S' w1 w2) (hs : ∀ i, i < w.heap.size → S' i → S i) : Fr S w w2 :=
  ⟨h'.os.trans h.os, h'.tape.trans h.tape, h'.output.trans h.output, Nat.le_trans h.size h'.size, fun k hk hn =>
    (h'.block k (Nat.lt_of_lt_of_le hk h.size) fun hn' => hn (hs k hk hn')).trans (h.block k hk hn)⟩
theorem Fr.mono {S S' : Nat → Prop} {w w1 : World} (h : Fr S w w1) (hs : ∀ i, i < w.heap.size → S i → S' i) : Fr S' w w1 :=
  ⟨h.os, h.tape, h.output, h.size, fun k hk hn => h.block k hk fun hn' => hn (hs k hk hn')⟩
theorem Fr.of_below {S : Nat → Prop} {w w1 : World} {B : Nat} (h : Below B w w1) (hB : w.heap.size ≤ B) : Fr S w w1 :=
  ⟨h.os, h.tape, h.output, h.size, fun k hk _ => h.block k (by omega)⟩
theorem Fr.below {S : Nat → Prop} {w w1 : World} {B : Nat} (h : Fr S w w1) (hB : B ≤ w.heap.size) (hS : ∀ i, S i → B ≤ i) : Below B w w1 :=
  ⟨h.os, h.tape, h.output, h.size, fun k hk => h.block k (by omega) fun hs => by have := hS k hs; omega⟩
theorem Fr.drewN {S : Nat → Prop} {w w1 : World} (h : Fr S w w1) (n : Nat) : Fr S w (w1.drewN n) := ⟨h.os, h.tape, h.output, h.size, h.block⟩
theorem Fr.drew {S : Nat → Prop} {w w1 : World} (h : Fr S w w1) : Fr S w w1.drew := ⟨h.os, h.tape, h.output, h.size, h.block⟩
theorem Fr.set {S : Nat → Prop} {w w1 : World} (h : Fr S w w1) (g i : Nat) (v : Value) (hS : S g) : Fr S w (w1.setCell ⟨g, i, none⟩ v) :=
  ⟨h.os, h.tape, h.output, by simpa [World.setCell] using h.size, fun k hk hn => by
    rw [← h.block k hk hn]
    have hne : g ≠ k := fun e => hn (e ▸ hS)
    simp [World.setCell, Array.getElem?_modify, hne]⟩
theorem Fr.alloc {S : Nat → Prop} {w w1 : World} (h : Fr S w w1) (o : Obj) : Fr S w (w1.alloc o) :=
  ⟨h.os, h.tape, h.output, by have := h.size; show w.heap.size ≤ (w1.heap.push o).size; rw [Array.size_push]; omega, fun k hk hn => by
    rw [← h.block k hk hn]; have := h.size
    simp only [World.alloc]; rw [Array.getElem?_push, if_neg (by omega)]⟩
theorem Blk.fr {w w' : World} {g : Nat} {T : TypeId} {vs : List Value} {S : Nat → Prop} (h : Blk w g T vs) (hb : Fr S w w') (hg : ¬ S g) : Blk w' g T vs :=
  (hb.block g h.lt hg).trans h

theorem Fr.cell {S : Nat → Prop} {w w' : World} (h : Fr S w w') {a : Addr} (ha : a.block < w.heap.size) (hS : ¬ S a.block) : w'.cell? a = w.cell? a :=
  World.cell?_of_block (h.block _ ha hS)
theorem Fr.of_grown {w w' : World} {row : Option Nat} (h : w.grownBy w' row) : Fr (fun i => row = some i) w w' :=
  ⟨h.os, h.tape, h.output, h.size, fun k hk hn => h.block k hk fun e => hn e.symm⟩
theorem Blk.new (w : World) (T : TypeId) (vs : List Value) : Blk (w.alloc (.cells vs.toArray T)) w.heap.size T vs := by
  show (w.heap.push _)[w.heap.size]? = _
  exact Array.getElem?_push_size
theorem Blk.new' (w : World) (n : Nat) (T : TypeId) (vs : List Value) (h : n = w.heap.size) : Blk (w.alloc (.cells vs.toArray T)) n T vs := by
  subst h; exact Blk.new w T vs
theorem Below.drewN {B : Nat} {a w : World} (h : Below B a w) (n : Nat) : Below B a (w.drewN n) := ⟨h.os, h.tape, h.output, h.size, h.block⟩

end Go.Proofs.YtndjjnnljihmnaaGreat
