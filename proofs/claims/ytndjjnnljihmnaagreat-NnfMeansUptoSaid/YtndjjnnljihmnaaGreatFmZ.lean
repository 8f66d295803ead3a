/- push, whole; Mini. -/
import Derived.Test.YtndjjnnljihmnaaGreatFmS
import Derived.Test.YtndjjnnljihmnaaGreatFmY
namespace Go.Proofs.YtndjjnnljihmnaaGreat
open Go.RowKit
set_option linter.unusedVariables false
set_option linter.unusedSimpArgs false
theorem push0 : ∀ N, PushAt 50 N := by
  intro N
  induction N with
  | zero => intro kind x k n vl fl al vr fr ar ts Al cl Ar cr A c S w h; have := Fm.wt_pos (Fm.mk k n (.mk vl fl al) (.mk vr fr ar) ts); omega
  | succ N ih =>
    intro kind x k n vl fl al vr fr ar ts Al cl Ar cr A c S w h hN hsh h1 h2 h3
    rcases shape_cases hsh with ⟨hk, hts⟩ | ⟨hk, a, hts, ha⟩ | ⟨hk, a, a', hts, ha, ha'⟩
    · exact pushX (N + 1) kind x k n vl fl al vr fr ar ts Al cl Ar cr A c S w h hN (by omega) (by omega) h1 h2 h3
    · exact pushX (N + 1) kind x k n vl fl al vr fr ar ts Al cl Ar cr A c S w h hN (by omega) (by omega) h1 h2 h3
    · rcases hk with hk | hk | hk | hk
      · exact pushY N ih kind x k n vl fl al vr fr ar ts Al cl Ar cr A c a a' S w (Or.inl hk) hts h hN ha ha' h1 h2 h3
      · exact pushY N ih kind x k n vl fl al vr fr ar ts Al cl Ar cr A c a a' S w (Or.inr hk) hts h hN ha ha' h1 h2 h3
      · exact pushX (N + 1) kind x k n vl fl al vr fr ar ts Al cl Ar cr A c S w h hN (by omega) (by omega) h1 h2 h3
      · exact pushX (N + 1) kind x k n vl fl al vr fr ar ts Al cl Ar cr A c S w h hN (by omega) (by omega) h1 h2 h3
theorem mini_at (k : Int) (n : ByteArray) (vl : Int) (fl : ByteArray) (al : List Tm) (vr : Int) (fr : ByteArray) (ar : List Tm) (ts : List Fm) (Al : Option Addr) (cl : Nat) (Ar : Option Addr) (cr : Nat) (A : Option Addr) (c : Nat) (S : Nat → Prop) (w : World) (hB : (Fm.mk k n (.mk vl fl al) (.mk vr fr ar) ts).wt + (Fm.mk k n (.mk vl fl al) (.mk vr fr ar) ts).lf * (Fm.mk k n (.mk vl fl al) (.mk vr fr ar) ts).qs ≤ 4398046511104) (hW : (Fm.mk k n (.mk vl fl al) (.mk vr fr ar) ts).wt ≤ 4398046511) (hl : ST S w Al al.length cl al) (hr : ST S w Ar ar.length cr ar) (hs : SF S w A ts.length c ts) : Calls Tryz.prog 10 #[.agg #[.int .i64 k, .string n, .int .i64 vl, .string fl, .slice Al al.length cl, .int .i64 vr, .string fr, .slice Ar ar.length cr, .slice A ts.length c]] w fun e w' => NRes (Up S w) w' (Fm.miniR (Fm.mk k n (.mk vl fl al) (.mk vr fr ar) ts)) (Fm.miniE (Fm.mk k n (.mk vl fl al) (.mk vr fr ar) ts)) e ∧ Below w.heap.size w w' := mini_any (push0 4398046511104) k n vl fl al vr fr ar ts Al cl Ar cr A c S w hB hW hl hr hs
end Go.Proofs.YtndjjnnljihmnaaGreat
