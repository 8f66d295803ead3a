/- The law NnfTurns: the walk. -/
import Derived.Test.YtndjjnnljihmnaaGreatGmC
import Derived.Test.YtndjjnnljihmnaaGreatGmB
import Derived.Test.YtndjjnnljihmnaaGreatGmO
namespace Go.Proofs.YtndjjnnljihmnaaGreat
open Go.RowKit
set_option linter.unusedVariables false
set_option linter.unusedSimpArgs false
theorem seq_refl (a : ByteArray) : seq a a = true := by unfold seq; simp
mutual
theorem Tm.same_refl : ∀ t : Tm, t.same t = true
  | .mk v f ts => by rw [Tm.same, seq_refl, Tm.sames_refl ts]; simp
theorem Tm.sames_refl : ∀ ts : List Tm, Tm.sames ts ts = true
  | [] => by rw [Tm.sames]
  | t :: r => by rw [Tm.sames, Tm.same_refl t, Tm.sames_refl r]; rfl
end
mutual
theorem Fm.same_refl : ∀ t : Fm, t.same t = true
  | .mk k n l r ts => by rw [Fm.same, seq_refl, l.same_refl, r.same_refl, Fm.sames_refl ts]; simp
theorem Fm.sames_refl : ∀ ts : List Fm, Fm.sames ts ts = true
  | [] => by rw [Fm.sames]
  | t :: r => by rw [Fm.sames, Fm.same_refl t, Fm.sames_refl r]; rfl
end
theorem NRes.all {S : Nat → Prop} {w : World} {g : Fm} {en : Int} {e : Ending} (h : NRes S w g en e) : NRes All w g en e := h.lift (Stay.mono fun _ _ => trivial)
end Go.Proofs.YtndjjnnljihmnaaGreat
