/- The names of free variables: what met and Met tell. -/
import Derived.Test.YtndjjnnljihmnaaGreatFmI
namespace Go.Proofs.YtndjjnnljihmnaaGreat
open Go.RowKit Go.Proofs.YtndjjnnljihmnaaGreat.Lx
set_option linter.unusedVariables false
set_option linter.unusedSimpArgs false
def vstep (bd out : List ByteArray) (n : ByteArray) : List ByteArray := if isVarB (bs n) && !(Lib.containsS bd n) && !(Lib.containsS out n) then out ++ [n] else out
mutual
def Tm.met (bd : List ByteArray) : List ByteArray → Tm → List ByteArray
  | out, .mk _ f ts => Tm.mets bd (vstep bd out f) ts
def Tm.mets (bd : List ByteArray) : List ByteArray → List Tm → List ByteArray
  | out, [] => out
  | out, t :: r => Tm.mets bd (Tm.met bd out t) r
end
mutual
def Fm.met : List ByteArray → List ByteArray → Fm → List ByteArray
  | bd, out, .mk k n l r ks => if k = 1 then r.met bd (l.met bd out) else Fm.mets (if k = 7 ∨ k = 8 then bd ++ [n] else bd) out ks
def Fm.mets : List ByteArray → List ByteArray → List Fm → List ByteArray
  | _, out, [] => out
  | bd, out, t :: r => Fm.mets bd (Fm.met bd out t) r
end
theorem vstep_len (bd out : List ByteArray) (n : ByteArray) : (vstep bd out n).length ≤ out.length + 1 := by
  unfold vstep; split
  · simp
  · omega
mutual
theorem Tm.met_len (bd : List ByteArray) : ∀ (t : Tm) (out : List ByteArray), (t.met bd out).length ≤ out.length + t.wt
  | .mk v f ts, out => by
    rw [Tm.met, Tm.wt]
    have h1 := Tm.mets_len bd ts (vstep bd out f)
    have h2 := vstep_len bd out f
    omega
theorem Tm.mets_len (bd : List ByteArray) : ∀ (ts : List Tm) (out : List ByteArray), (Tm.mets bd out ts).length ≤ out.length + Tm.wts ts
  | [], out => by rw [Tm.mets]; omega
  | t :: r, out => by
    rw [Tm.mets, Tm.wts]
    have h1 := Tm.mets_len bd r (Tm.met bd out t)
    have h2 := Tm.met_len bd t out
    omega
end
mutual
theorem Fm.met_len : ∀ (f : Fm) (bd out : List ByteArray), (f.met bd out).length ≤ out.length + f.wt
  | .mk k n l r ks, bd, out => by
    rw [Fm.met, Fm.wt]
    split
    · have h1 := Tm.met_len bd r (l.met bd out)
      have h2 := Tm.met_len bd l out
      omega
    · have h1 := Fm.mets_len ks (if k = 7 ∨ k = 8 then bd ++ [n] else bd) out
      omega
theorem Fm.mets_len : ∀ (ks : List Fm) (bd out : List ByteArray), (Fm.mets bd out ks).length ≤ out.length + Fm.wts ks
  | [], bd, out => by rw [Fm.mets]; omega
  | t :: r, bd, out => by
    rw [Fm.mets, Fm.wts]
    have h1 := Fm.mets_len r bd (Fm.met bd out t)
    have h2 := Fm.met_len t bd out
    omega
end
theorem Tm.mets_take (bd out : List ByteArray) (ts : List Tm) (i : Nat) (h : i < ts.length) : Tm.mets bd out (ts.take (i + 1)) = ts[i].met bd (Tm.mets bd out (ts.take i)) := by
  induction ts generalizing out i with
  | nil => simp at h
  | cons t r ih =>
    cases i with
    | zero => simp [Tm.mets]
    | succ i => simpa [Tm.mets] using ih (t.met bd out) i (by simpa using h)
theorem Fm.mets_take (bd out : List ByteArray) (ts : List Fm) (i : Nat) (h : i < ts.length) : Fm.mets bd out (ts.take (i + 1)) = ts[i].met bd (Fm.mets bd out (ts.take i)) := by
  induction ts generalizing out i with
  | nil => simp at h
  | cons t r ih =>
    cases i with
    | zero => simp [Fm.mets]
    | succ i => simpa [Fm.mets] using ih (t.met bd out) i (by simpa using h)
/-- Is a name free in a formula? -/
def Fm.has (f : Fm) (x : ByteArray) : Bool := Lib.containsS (f.met [] []) x
def strs (l : List ByteArray) : List Value := l.map .string
theorem strs_app (a b : List ByteArray) : strs (a ++ b) = strs a ++ strs b := by simp [strs]
/-- Names that lie in memory, to be read. -/
def Nm (w : World) (A : Option Addr) (l : List ByteArray) : Prop := 0 < l.length → ∃ g o, A = some ⟨g, o, none⟩ ∧ ∀ j, j < l.length → w.cell? ⟨g, o + j, none⟩ = some (.string (l.getD j ByteArray.empty))
theorem Nm.nil (w : World) (A : Option Addr) : Nm w A [] := fun h => absurd h (by simp)
theorem Nm.stay {w w' : World} {A : Option Addr} {l : List ByteArray} (h : Nm w A l) (hs : ∀ g o u, A = some ⟨g, o, none⟩ → ∀ j, w.cell? ⟨g, o + j, none⟩ = some u → w'.cell? ⟨g, o + j, none⟩ = some u) : Nm w' A l := fun h0 => by
  obtain ⟨g, o, e, hc⟩ := h h0
  exact ⟨g, o, e, fun j hj => hs g o _ e j (hc j hj)⟩
theorem Nm.below {w w' : World} {A : Option Addr} {l : List ByteArray} (h : Nm w A l) (hb : Below w.heap.size w w') : Nm w' A l := h.stay fun g o u _ j hc => (hb.cell (p := ⟨g, o + j, none⟩) (World.block_lt_of_cell? w _ hc)).trans hc
theorem Nm.fr {w w' : World} {A : Option Addr} {l : List ByteArray} {T : Nat → Prop} (h : Nm w A l) (hf : Fr T w w') (hT : ∀ g o, A = some ⟨g, o, none⟩ → ¬ T g) : Nm w' A l := h.stay fun g o u e j hc => (hf.cell (a := ⟨g, o + j, none⟩) (World.block_lt_of_cell? w _ hc) (hT g o e)).trans hc
end Go.Proofs.YtndjjnnljihmnaaGreat
