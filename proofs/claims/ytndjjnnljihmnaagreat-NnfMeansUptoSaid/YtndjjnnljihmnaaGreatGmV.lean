/- What a formula means. -/
import Derived.Test.YtndjjnnljihmnaaGreatFmP
namespace Go.Proofs.YtndjjnnljihmnaaGreat
open Go.RowKit Go.Proofs.YtndjjnnljihmnaaGreat.Lx
set_option linter.unusedVariables false
set_option linter.unusedSimpArgs false
/-- What names are: things. -/
def upd (r : ByteArray → Int) (x : ByteArray) (v : Int) : ByteArray → Int := fun y => if y = x then v else r y
def fst1 : List Bool → Bool
  | a :: _ => a
  | _ => false
def snd1 : List Bool → Bool
  | _ :: b :: _ => b
  | _ => false
section
variable (pk : ByteArray → List Int → Int)
mutual
/-- A term's value; pk: what a function is of things. -/
def Tm.val (r : ByteArray → Int) : Tm → Int
  | .mk _ f ts => if isVarB (bs f) && ts.length == 0 then r f else pk f (Tm.vals r ts)
def Tm.vals (r : ByteArray → Int) : List Tm → List Int
  | [] => []
  | t :: l => Tm.val r t :: Tm.vals r l
end
/-- A quantifier over n things. -/
def qsem (k : Int) (n : Nat) (p : Nat → Bool) : Bool := if k = 8 then (List.range n).any p else (List.range n).all p
mutual
/-- Does a formula hold, in a world of n things? -/
def Fm.tru (n : Nat) : Fm → (ByteArray → Int) → Bool
  | .mk k nm l r ks, e =>
    if k = 1 then l.val pk e == r.val pk e
    else if k = 9 then true
    else if k = 10 then false
    else if k = 2 then !(fst1 (Fm.trus n ks e))
    else if k = 3 then fst1 (Fm.trus n ks e) && snd1 (Fm.trus n ks e)
    else if k = 4 then fst1 (Fm.trus n ks e) || snd1 (Fm.trus n ks e)
    else if k = 5 then !(fst1 (Fm.trus n ks e)) || snd1 (Fm.trus n ks e)
    else if k = 6 then fst1 (Fm.trus n ks e) == snd1 (Fm.trus n ks e)
    else qsem k n (fun v => fst1 (Fm.trus n ks (upd e nm v)))
def Fm.trus (n : Nat) : List Fm → (ByteArray → Int) → List Bool
  | [], _ => []
  | f :: l, e => Fm.tru n f e :: Fm.trus n l e
end
end
end Go.Proofs.YtndjjnnljihmnaaGreat
