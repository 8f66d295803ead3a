/- Formulas turned: the specification, nnf's turn. -/
import Derived.Test.YtndjjnnljihmnaaGreatFmI
namespace Go.Proofs.YtndjjnnljihmnaaGreat
open Go.RowKit
set_option linter.unusedVariables false
set_option linter.unusedSimpArgs false
def sel {α : Type} (b : Bool) (p : α × α) : α := if b then p.2 else p.1
theorem sel_f {α : Type} (x y : α) : sel false (x, y) = x := rfl
theorem sel_t {α : Type} (x y : α) : sel true (x, y) = y := rfl
def kd1 (L : List (Fm × Fm)) : Fm × Fm := match L with | a :: _ => a | _ => (Fm.c 9, Fm.c 9)
def kd2 (L : List (Fm × Fm)) : Fm × Fm := match L with | _ :: b :: _ => b | _ => (Fm.c 9, Fm.c 9)
/-- A formula turned (negated, where neg holds). -/
def turnC (neg : Bool) (k : Int) (n : ByteArray) (f : Fm) (will : Fo) (L : List (Fm × Fm)) : Fm :=
  if constI will.k then Fm.c will.k
  else if k = 1 then (if neg then Fm.one 2 ⟨#[]⟩ f else f)
  else if k = 2 then sel (!neg) (kd1 L)
  else if k = 7 ∨ k = 8 then (if constI (sel neg (kd1 L)).kind then sel neg (kd1 L) else Fm.one (if neg then dualI k else k) n (sel neg (kd1 L)))
  else if k = 5 then (if neg then joinF 3 (sel false (kd1 L)) (sel true (kd2 L)) else joinF 4 (sel true (kd1 L)) (sel false (kd2 L)))
  else if k = 6 then joinF 3 (joinF 4 (sel (!neg) (kd1 L)) (sel false (kd2 L))) (joinF 4 (sel neg (kd1 L)) (sel true (kd2 L)))
  else joinF (if neg then dualI k else k) (sel neg (kd1 L)) (sel neg (kd2 L))
mutual
def Fm.turn : Fm → Fm × Fm
  | .mk k n l r ks => (turnC false k n (.mk k n l r ks) (Fm.meas (.mk k n l r ks)).1 (Fm.turnL ks), turnC true k n (.mk k n l r ks) (Fm.meas (.mk k n l r ks)).2 (Fm.turnL ks))
def Fm.turnL : List Fm → List (Fm × Fm)
  | [] => []
  | f :: r => Fm.turn f :: Fm.turnL r
end
theorem turn_sel (neg : Bool) (k : Int) (n : ByteArray) (l r : Tm) (ks : List Fm) : sel neg (Fm.turn (.mk k n l r ks)) = turnC neg k n (.mk k n l r ks) (sel neg (Fm.meas (.mk k n l r ks))) (Fm.turnL ks) := by
  rw [Fm.turn]; cases neg <;> rfl
theorem blk9 {w : World} {g : Nat} {T : TypeId} {x0 x1 x2 x3 x4 x5 x6 x7 x8 : Value} (h : Blk w g T [x0, x1, x2, x3, x4, x5, x6, x7, x8]) (a0 a1 a2 a3 a4 a5 a6 a7 a8 : Value) : Blk (((((((((w.setCell ⟨g, 0, none⟩ a0).setCell ⟨g, 1, none⟩ a1).setCell ⟨g, 2, none⟩ a2).setCell ⟨g, 3, none⟩ a3).setCell ⟨g, 4, none⟩ a4).setCell ⟨g, 5, none⟩ a5).setCell ⟨g, 6, none⟩ a6).setCell ⟨g, 7, none⟩ a7).setCell ⟨g, 8, none⟩ a8) g T [a0, a1, a2, a3, a4, a5, a6, a7, a8] := ((((((((h.set 0 a0).set 1 a1).set 2 a2).set 3 a3).set 4 a4).set 5 a5).set 6 a6).set 7 a7).set 8 a8
theorem blk9o {w : World} {g h : Nat} {T : TypeId} {vs : List Value} (hb : Blk w g T vs) (hne : h ≠ g) (a0 a1 a2 a3 a4 a5 a6 a7 a8 : Value) : Blk (((((((((w.setCell ⟨h, 0, none⟩ a0).setCell ⟨h, 1, none⟩ a1).setCell ⟨h, 2, none⟩ a2).setCell ⟨h, 3, none⟩ a3).setCell ⟨h, 4, none⟩ a4).setCell ⟨h, 5, none⟩ a5).setCell ⟨h, 6, none⟩ a6).setCell ⟨h, 7, none⟩ a7).setCell ⟨h, 8, none⟩ a8) g T vs := ((((((((hb.other _ a0 hne).other _ a1 hne).other _ a2 hne).other _ a3 hne).other _ a4 hne).other _ a5 hne).other _ a6 hne).other _ a7 hne).other _ a8 hne
theorem bel9 {w W : World} {g : Nat} (h : Below w.heap.size w W) (hg : w.heap.size ≤ g) (a0 a1 a2 a3 a4 a5 a6 a7 a8 : Value) : Below w.heap.size w (((((((((W.setCell ⟨g, 0, none⟩ a0).setCell ⟨g, 1, none⟩ a1).setCell ⟨g, 2, none⟩ a2).setCell ⟨g, 3, none⟩ a3).setCell ⟨g, 4, none⟩ a4).setCell ⟨g, 5, none⟩ a5).setCell ⟨g, 6, none⟩ a6).setCell ⟨g, 7, none⟩ a7).setCell ⟨g, 8, none⟩ a8) := ((((((((h.setCell hg a0).setCell hg a1).setCell hg a2).setCell hg a3).setCell hg a4).setCell hg a5).setCell hg a6).setCell hg a7).setCell hg a8
theorem Stay.set {S : Nat → Prop} {w : World} {g : Nat} (h : ¬ S g) (i : Nat) (u : Value) : Stay S S w (w.setCell ⟨g, i, none⟩ u) := fun b o x hS hc => ⟨hS, (World.cell?_setCell_far w _ _ u (fun e => h (by subst e; exact hS))).trans hc⟩
theorem Stay.set9 {S : Nat → Prop} {w : World} {g : Nat} (h : ¬ S g) (a0 a1 a2 a3 a4 a5 a6 a7 a8 : Value) : Stay S S w (((((((((w.setCell ⟨g, 0, none⟩ a0).setCell ⟨g, 1, none⟩ a1).setCell ⟨g, 2, none⟩ a2).setCell ⟨g, 3, none⟩ a3).setCell ⟨g, 4, none⟩ a4).setCell ⟨g, 5, none⟩ a5).setCell ⟨g, 6, none⟩ a6).setCell ⟨g, 7, none⟩ a7).setCell ⟨g, 8, none⟩ a8) :=
  (((((((Stay.set h 0 a0).trans (Stay.set h 1 a1)).trans (Stay.set h 2 a2)).trans (Stay.set h 3 a3)).trans (Stay.set h 4 a4)).trans (Stay.set h 5 a5)).trans (Stay.set h 6 a6)).trans ((Stay.set h 7 a7).trans (Stay.set h 8 a8))
/-- What was told at w, or made behind W. -/
def Lo (S : Nat → Prop) (w W : World) : Nat → Prop := fun b => (S b ∧ b < w.heap.size) ∨ W.heap.size ≤ b
theorem lo_not {S : Nat → Prop} {w W : World} {g : Nat} (h1 : w.heap.size ≤ g) (h2 : g < W.heap.size) : ¬ Lo S w W g := fun h => by rcases h with h | h <;> omega
theorem Stay.lo_up {S : Nat → Prop} {w W w' : World} (h : w.heap.size ≤ W.heap.size) : Stay (Lo S w W) (Up S w) w' w' := Stay.mono fun b hb => by rcases hb with hb | hb; exact Or.inl hb.1; exact Or.inr (by omega)
theorem Stay.low' {S : Nat → Prop} {w : World} : Stay S (fun b => S b ∧ b < w.heap.size) w w := Stay.low
theorem Stay.lo_lo {S : Nat → Prop} {w W W' w' : World} (h : W.heap.size ≤ W'.heap.size) : Stay (Lo S w W') (Lo S w W) w' w' := Stay.mono fun b hb => by rcases hb with hb | hb; exact Or.inl hb; exact Or.inr (by omega)
def LoX (S : Nat → Prop) (w W : World) (g : Nat) : Nat → Prop := fun b => Lo S w W b ∧ b ≠ g
theorem Stay.lo_x1 {S : Nat → Prop} {w W W' w' : World} {g : Nat} (h : W.heap.size ≤ W'.heap.size) (hg : g < W'.heap.size) (hw : w.heap.size ≤ g) : Stay (Lo S w W') (LoX S w W g) w' w' := Stay.mono fun b hb => by
  rcases hb with hb | hb
  · exact ⟨Or.inl hb, by omega⟩
  · exact ⟨Or.inr (by omega), by omega⟩
theorem Stay.lo_x2 {S : Nat → Prop} {w W x : World} (o : Obj) : Stay (Lo S w W) (LoX S w W x.heap.size) x (x.alloc o) := fun b i u hS hc => by
  have hl := World.block_lt_of_cell? x _ hc
  exact ⟨⟨hS, by simp only at hl; omega⟩, ((Below.alloc (Below.refl _ _) (Nat.le_refl _) o).cell (p := ⟨b, i, none⟩) hl).trans hc⟩
theorem Stay.x_lo {S : Nat → Prop} {w W w' : World} {g : Nat} : Stay (LoX S w W g) (Lo S w W) w' w' := Stay.mono fun b hb => hb.1
theorem Stay.up_x {S : Nat → Prop} {w W W' w' : World} {g : Nat} (h : W.heap.size ≤ W'.heap.size) (hg : g < W'.heap.size) : Stay (Up (LoX S w W g) W') (LoX S w W g) w' w' := Stay.mono fun b hb => by
  rcases hb with hb | hb
  · exact hb
  · exact ⟨Or.inr (by omega), by omega⟩
theorem x_not {S : Nat → Prop} {w W : World} {g : Nat} : ¬ LoX S w W g g := fun h => h.2 rfl
theorem Stay.up_lo {S : Nat → Prop} {w W W' w' : World} (h : W.heap.size ≤ W'.heap.size) : Stay (Up (Lo S w W) W') (Lo S w W) w' w' := Stay.mono fun b hb => by rcases hb with hb | hb; exact hb; exact Or.inr (by omega)
theorem Stay.al {S : Nat → Prop} {w : World} (o : Obj) : Stay S S w (w.alloc o) := Stay.below (Below.alloc (Below.refl _ _) (Nat.le_refl _) o)
/-- Cells of a block, all at once. -/
structure B9 (w : World) (g : Nat) (u0 u1 u2 u3 u4 u5 u6 u7 u8 : Value) : Prop where
  c0 : w.cell? ⟨g, 0, none⟩ = some u0
  c1 : w.cell? ⟨g, 1, none⟩ = some u1
  c2 : w.cell? ⟨g, 2, none⟩ = some u2
  c3 : w.cell? ⟨g, 3, none⟩ = some u3
  c4 : w.cell? ⟨g, 4, none⟩ = some u4
  c5 : w.cell? ⟨g, 5, none⟩ = some u5
  c6 : w.cell? ⟨g, 6, none⟩ = some u6
  c7 : w.cell? ⟨g, 7, none⟩ = some u7
  c8 : w.cell? ⟨g, 8, none⟩ = some u8
structure F9 (w : World) (g : Nat) : Prop where
  c0 : w.frozen? ⟨g, 0, none⟩ = false
  c1 : w.frozen? ⟨g, 1, none⟩ = false
  c2 : w.frozen? ⟨g, 2, none⟩ = false
  c3 : w.frozen? ⟨g, 3, none⟩ = false
  c4 : w.frozen? ⟨g, 4, none⟩ = false
  c5 : w.frozen? ⟨g, 5, none⟩ = false
  c6 : w.frozen? ⟨g, 6, none⟩ = false
  c7 : w.frozen? ⟨g, 7, none⟩ = false
  c8 : w.frozen? ⟨g, 8, none⟩ = false
theorem Blk.nine {w : World} {g : Nat} {T : TypeId} {u0 u1 u2 u3 u4 u5 u6 u7 u8 : Value} (h : Blk w g T [u0, u1, u2, u3, u4, u5, u6, u7, u8]) : B9 w g u0 u1 u2 u3 u4 u5 u6 u7 u8 := ⟨h.cell 0, h.cell 1, h.cell 2, h.cell 3, h.cell 4, h.cell 5, h.cell 6, h.cell 7, h.cell 8⟩
theorem Blk.free9 {w : World} {g : Nat} {T : TypeId} {vs : List Value} (h : Blk w g T vs) : F9 w g := ⟨h.free 0, h.free 1, h.free 2, h.free 3, h.free 4, h.free 5, h.free 6, h.free 7, h.free 8⟩
theorem Blk.six {w : World} {g : Nat} {T : TypeId} {u0 u1 u2 u3 u4 u5 : Value} (h : Blk w g T [u0, u1, u2, u3, u4, u5]) : w.cell? ⟨g, 0, none⟩ = some u0 ∧ w.cell? ⟨g, 1, none⟩ = some u1 ∧ w.cell? ⟨g, 2, none⟩ = some u2 ∧ w.cell? ⟨g, 3, none⟩ = some u3 ∧ w.cell? ⟨g, 4, none⟩ = some u4 ∧ w.cell? ⟨g, 5, none⟩ = some u5 := ⟨h.cell 0, h.cell 1, h.cell 2, h.cell 3, h.cell 4, h.cell 5⟩
theorem Blk.three {w : World} {g : Nat} {T : TypeId} {u0 u1 u2 : Value} (h : Blk w g T [u0, u1, u2]) : w.cell? ⟨g, 0, none⟩ = some u0 ∧ w.cell? ⟨g, 1, none⟩ = some u1 ∧ w.cell? ⟨g, 2, none⟩ = some u2 := ⟨h.cell 0, h.cell 1, h.cell 2⟩
/-- Nine cells that stand together. -/
structure C9 (w : World) (b o : Nat) (u0 u1 u2 u3 u4 u5 u6 u7 u8 : Value) : Prop where
  c0 : w.cell? ⟨b, o, none⟩ = some u0
  c1 : w.cell? ⟨b, o + 1, none⟩ = some u1
  c2 : w.cell? ⟨b, o + 2, none⟩ = some u2
  c3 : w.cell? ⟨b, o + 3, none⟩ = some u3
  c4 : w.cell? ⟨b, o + 4, none⟩ = some u4
  c5 : w.cell? ⟨b, o + 5, none⟩ = some u5
  c6 : w.cell? ⟨b, o + 6, none⟩ = some u6
  c7 : w.cell? ⟨b, o + 7, none⟩ = some u7
  c8 : w.cell? ⟨b, o + 8, none⟩ = some u8
theorem C9.keep {w W : World} {b o : Nat} {u0 u1 u2 u3 u4 u5 u6 u7 u8 : Value} (h : C9 w b o u0 u1 u2 u3 u4 u5 u6 u7 u8) (hb : Below w.heap.size w W) : C9 W b o u0 u1 u2 u3 u4 u5 u6 u7 u8 := ⟨keepc hb h.c0, keepc hb h.c1, keepc hb h.c2, keepc hb h.c3, keepc hb h.c4, keepc hb h.c5, keepc hb h.c6, keepc hb h.c7, keepc hb h.c8⟩
theorem r3 {S S' : Nat → Prop} {w w' : World} {Al Ar A : Option Addr} {n cl m cr p c : Nat} {al ar : List Tm} {ts : List Fm} (h : ST S w Al n cl al ∧ ST S w Ar m cr ar ∧ SF S w A p c ts) (hs : Stay S S' w w') : ST S' w' Al n cl al ∧ ST S' w' Ar m cr ar ∧ SF S' w' A p c ts := ⟨h.1.stay hs, h.2.1.stay hs, h.2.2.stay hs⟩
theorem FRes.of {S : Nat → Prop} {w : World} {k1 : Int} {n1 : ByteArray} {vl1 : Int} {fl1 : ByteArray} {al1 : List Tm} {vr1 : Int} {fr1 : ByteArray} {ar1 : List Tm} {ts1 : List Fm} {Al1 : Option Addr} {cl1 : Nat} {Ar1 : Option Addr} {cr1 : Nat} {A1 : Option Addr} {c1 : Nat} (h : ST S w Al1 al1.length cl1 al1 ∧ ST S w Ar1 ar1.length cr1 ar1 ∧ SF S w A1 ts1.length c1 ts1) : FRes S w (Fm.mk k1 n1 (.mk vl1 fl1 al1) (.mk vr1 fr1 ar1) ts1) (.returned (.agg #[.int .i64 k1, .string n1, .int .i64 vl1, .string fl1, .slice Al1 al1.length cl1, .int .i64 vr1, .string fr1, .slice Ar1 ar1.length cr1, .slice A1 ts1.length c1])) := ⟨k1, n1, vl1, fl1, al1, vr1, fr1, ar1, ts1, Al1, cl1, Ar1, cr1, A1, c1, rfl, rfl, h⟩
theorem FRes.one {S : Nat → Prop} {w : World} {g : Nat} (k : Int) (n : ByteArray) {k1 : Int} {n1 : ByteArray} {vl1 : Int} {fl1 : ByteArray} {al1 : List Tm} {vr1 : Int} {fr1 : ByteArray} {ar1 : List Tm} {ts1 : List Fm} {Al1 : Option Addr} {cl1 : Nat} {Ar1 : Option Addr} {cr1 : Nat} {A1 : Option Addr} {c1 : Nat} (hb : Blk w g 27 [.int .i64 k1, .string n1, .int .i64 vl1, .string fl1, .slice Al1 al1.length cl1, .int .i64 vr1, .string fr1, .slice Ar1 ar1.length cr1, .slice A1 ts1.length c1]) (hS : S g) (h : ST S w Al1 al1.length cl1 al1 ∧ ST S w Ar1 ar1.length cr1 ar1 ∧ SF S w A1 ts1.length c1 ts1) : FRes S w (Fm.one k n (Fm.mk k1 n1 (.mk vl1 fl1 al1) (.mk vr1 fr1 ar1) ts1)) (.returned (.agg #[.int .i64 k, .string n, .int .i64 0, .string ⟨#[]⟩, .slice none 0 0, .int .i64 0, .string ⟨#[]⟩, .slice none 0 0, .slice (some ⟨g, 0, none⟩) 1 1])) :=
  ⟨k, n, 0, ⟨#[]⟩, [], 0, ⟨#[]⟩, [], [(Fm.mk k1 n1 (.mk vl1 fl1 al1) (.mk vr1 fr1 ar1) ts1)], none, 0, none, 0, some ⟨g, 0, none⟩, 1, rfl, rfl, ST.nil _ _ _, ST.nil _ _ _, SF.one (more := []) k1 n1 vl1 fl1 al1 vr1 fr1 ar1 ts1 Al1 cl1 Ar1 cr1 A1 c1 hb hS h.1 h.2.1 h.2.2 1 (by omega)⟩
theorem joinR (kind : Int) {k1 : Int} {n1 : ByteArray} {vl1 : Int} {fl1 : ByteArray} {al1 : List Tm} {vr1 : Int} {fr1 : ByteArray} {ar1 : List Tm} {ts1 : List Fm} {Al1 : Option Addr} {cl1 : Nat} {Ar1 : Option Addr} {cr1 : Nat} {A1 : Option Addr} {c1 : Nat} {k2 : Int} {n2 : ByteArray} {vl2 : Int} {fl2 : ByteArray} {al2 : List Tm} {vr2 : Int} {fr2 : ByteArray} {ar2 : List Tm} {ts2 : List Fm} {Al2 : Option Addr} {cl2 : Nat} {Ar2 : Option Addr} {cr2 : Nat} {A2 : Option Addr} {c2 : Nat} (S : Nat → Prop) (w : World) (h : ST S w Al1 al1.length cl1 al1 ∧ ST S w Ar1 ar1.length cr1 ar1 ∧ SF S w A1 ts1.length c1 ts1) (h' : ST S w Al2 al2.length cl2 al2 ∧ ST S w Ar2 ar2.length cr2 ar2 ∧ SF S w A2 ts2.length c2 ts2) : Calls Tryz.prog 42 #[.int .i64 kind, .agg #[.int .i64 k1, .string n1, .int .i64 vl1, .string fl1, .slice Al1 al1.length cl1, .int .i64 vr1, .string fr1, .slice Ar1 ar1.length cr1, .slice A1 ts1.length c1], .agg #[.int .i64 k2, .string n2, .int .i64 vl2, .string fl2, .slice Al2 al2.length cl2, .int .i64 vr2, .string fr2, .slice Ar2 ar2.length cr2, .slice A2 ts2.length c2]] w fun e w' => FRes (Up S w) w' (joinF kind (Fm.mk k1 n1 (.mk vl1 fl1 al1) (.mk vr1 fr1 ar1) ts1) (Fm.mk k2 n2 (.mk vl2 fl2 al2) (.mk vr2 fr2 ar2) ts2)) e ∧ Below w.heap.size w w' := joined_any kind k1 n1 vl1 fl1 al1 vr1 fr1 ar1 ts1 Al1 cl1 Ar1 cr1 A1 c1 k2 n2 vl2 fl2 al2 vr2 fr2 ar2 ts2 Al2 cl2 Ar2 cr2 A2 c2 S w h.1 h.2.1 h.2.2 h'.1 h'.2.1 h'.2.2
def TurnAt (fn : Nat) (N : Nat) : Prop := ∀ (k : Int) (n : ByteArray) (vl : Int) (fl : ByteArray) (al : List Tm) (vr : Int) (fr : ByteArray) (ar : List Tm) (ts : List Fm) (Al : Option Addr) (cl : Nat) (Ar : Option Addr) (cr : Nat) (A : Option Addr) (c : Nat) (S : Nat → Prop) (w : World) (neg : Bool), (Fm.mk k n (.mk vl fl al) (.mk vr fr ar) ts).wt ≤ N → N ≤ 1125899906842624 → (Fm.mk k n (.mk vl fl al) (.mk vr fr ar) ts).shape = true → ST S w Al al.length cl al → ST S w Ar ar.length cr ar → SF S w A ts.length c ts →
    Calls Tryz.prog fn #[.agg #[.int .i64 k, .string n, .int .i64 vl, .string fl, .slice Al al.length cl, .int .i64 vr, .string fr, .slice Ar ar.length cr, .slice A ts.length c], .bool neg] w fun e w' => FRes (Up S w) w' (sel neg (Fm.turn (Fm.mk k n (.mk vl fl al) (.mk vr fr ar) ts))) e ∧ Below w.heap.size w w'
set_option maxRecDepth 100000 in
set_option maxHeartbeats 25600000 in
theorem turnA (k : Int) (n : ByteArray) (vl : Int) (fl : ByteArray) (al : List Tm) (vr : Int) (fr : ByteArray) (ar : List Tm) (ts : List Fm) (Al : Option Addr) (cl : Nat) (Ar : Option Addr) (cr : Nat) (A : Option Addr) (c : Nat) (S : Nat → Prop) (w : World) (neg : Bool) (h : k = 1) (hN' : (Fm.mk k n (.mk vl fl al) (.mk vr fr ar) ts).wt ≤ 1125899906842624) (hsh : (Fm.mk k n (.mk vl fl al) (.mk vr fr ar) ts).shape = true) (hl : ST S w Al al.length cl al) (hr : ST S w Ar ar.length cr ar) (hs : SF S w A ts.length c ts) : Calls Tryz.prog 19 #[.agg #[.int .i64 k, .string n, .int .i64 vl, .string fl, .slice Al al.length cl, .int .i64 vr, .string fr, .slice Ar ar.length cr, .slice A ts.length c], .bool neg] w fun e w' => FRes (Up S w) w' (sel neg (Fm.turn (Fm.mk k n (.mk vl fl al) (.mk vr fr ar) ts))) e ∧ Below w.heap.size w w' := by
  have HK := Lib.hid h
  clear h
  have HME := Lib.hid (fun w' (hb : Below w.heap.size w w') => measured0 1125899906842624 k n vl fl al vr fr ar ts Al cl Ar cr A c S w' hN' (Nat.le_refl _) hsh (hl.stay (Stay.below hb)) (hr.stay (Stay.below hb)) (hs.stay (Stay.below hb)))
  have HV := Lib.hid (turn_sel neg k n (.mk vl fl al) (.mk vr fr ar) ts)
  generalize sel neg (Fm.turn (Fm.mk k n (.mk vl fl al) (.mk vr fr ar) ts)) = res at *
  generalize hmm : Fm.meas (Fm.mk k n (.mk vl fl al) (.mk vr fr ar) ts) = m at *
  clear hmm
  obtain ⟨⟨pk, ps, pd⟩, ⟨nk, ns, nd⟩⟩ := m
  simp only at HME
  have G0 := Lib.hid (show ST S w Al al.length cl al ∧ ST S w Ar ar.length cr ar ∧ SF S w A ts.length c ts from ⟨hl, hr, hs⟩)
  clear hl hr hs hsh hN'
  have HB0 := Lib.hid (show Below w.heap.size w ((w.alloc (.cells #[.int .i64 k, .string n, .int .i64 vl, .string fl, .slice Al al.length cl, .int .i64 vr, .string fr, .slice Ar ar.length cr, .slice A ts.length c] 27)).alloc (.cells #[.int .i64 0, .string ⟨#[]⟩, .int .i64 0, .string ⟨#[]⟩, .slice none 0 0, .int .i64 0, .string ⟨#[]⟩, .slice none 0 0, .slice none 0 0] 27)) from bel_two)
  have BK1 := Lib.hid ((Blk.new w 27 [.int .i64 k, .string n, .int .i64 vl, .string fl, .slice Al al.length cl, .int .i64 vr, .string fr, .slice Ar ar.length cr, .slice A ts.length c]).alloc (.cells #[.int .i64 0, .string ⟨#[]⟩, .int .i64 0, .string ⟨#[]⟩, .slice none 0 0, .int .i64 0, .string ⟨#[]⟩, .slice none 0 0, .slice none 0 0] 27))
  have BK2 := Lib.hid (Blk.new' (w.alloc (.cells #[.int .i64 k, .string n, .int .i64 vl, .string fl, .slice Al al.length cl, .int .i64 vr, .string fr, .slice Ar ar.length cr, .slice A ts.length c] 27)) (w.heap.size + 1) 27 [.int .i64 0, .string ⟨#[]⟩, .int .i64 0, .string ⟨#[]⟩, .slice none 0 0, .int .i64 0, .string ⟨#[]⟩, .slice none 0 0, .slice none 0 0] (by simp))
  simp only [List.toArray] at BK1 BK2
  cases neg
  all_goals
    go_enter Tryz.func19, Tryz.ntmps19
    go_upto_region 1 with (fail)
    generalize hW : (w.alloc (.cells #[.int .i64 k, .string n, .int .i64 vl, .string fl, .slice Al al.length cl, .int .i64 vr, .string fr, .slice Ar ar.length cr, .slice A ts.length c] 27)).alloc (.cells #[.int .i64 0, .string ⟨#[]⟩, .int .i64 0, .string ⟨#[]⟩, .slice none 0 0, .int .i64 0, .string ⟨#[]⟩, .slice none 0 0, .slice none 0 0] 27) = W at *
    clear hW
    have tk := BK1.out.nine; have z0 := tk.c0; have z1 := tk.c1; have z2 := tk.c2; have z3 := tk.c3; have z4 := tk.c4; have z5 := tk.c5; have z6 := tk.c6; have z7 := tk.c7; have z8 := tk.c8; clear tk
    go_wp2_with fail
    refine (HME.out _ HB0.out).mono ?_
    rintro e w2 ⟨rfl, hb2⟩
    have HB2 := Lib.hid (bel_go HB0.out hb2)
    have BQ1 := Lib.hid (Blk.go BK1.out hb2)
    have BQ2 := Lib.hid (Blk.go BK2.out hb2)
    clear z0 z1 z2 z3 z4 z5 z6 z7 z8 hb2 BK1 BK2
    go_upto_region 2 with (fail)
    have BM := Lib.hid (Blk.new w2 47 [.int .i64 pk, .int .i64 ps, .int .i64 pd, .int .i64 nk, .int .i64 ns, .int .i64 nd])
    have BS1 := Lib.hid (BQ1.out.alloc (.cells #[.int .i64 pk, .int .i64 ps, .int .i64 pd, .int .i64 nk, .int .i64 ns, .int .i64 nd] 47))
    have BS2 := Lib.hid (BQ2.out.alloc (.cells #[.int .i64 pk, .int .i64 ps, .int .i64 pd, .int .i64 nk, .int .i64 ns, .int .i64 nd] 47))
    have HB3 := Lib.hid (Below.alloc HB2.out HB2.out.size (.cells #[.int .i64 pk, .int .i64 ps, .int .i64 pd, .int .i64 nk, .int .i64 ns, .int .i64 nd] 47))
    have hl1 := BQ1.out.lt
    have hl2 := BQ2.out.lt
    simp only [List.toArray] at BM
    generalize hgm : w2.heap.size = gm at *
    generalize hW3 : w2.alloc (.cells #[.int .i64 pk, .int .i64 ps, .int .i64 pd, .int .i64 nk, .int .i64 ns, .int .i64 nd] 47) = W3 at *
    clear hW3
    have hne1 : w.heap.size + 1 ≠ gm := by omega
    have hne2 : gm ≠ w.heap.size + 1 := by omega
    have hne0 : gm ≠ w.heap.size := by omega
    have hgw : w.heap.size ≤ gm := by omega
    clear hl1 hl2 hgm BQ1 BQ2
    obtain ⟨m0, m1, m2, m3, m4, m5⟩ := BM.out.six
    obtain ⟨mf0, mf1, mf2, mf3, mf4, mf5⟩ := (⟨BM.out.free 0, BM.out.free 1, BM.out.free 2, BM.out.free 3, BM.out.free 4, BM.out.free 5⟩ : _ ∧ _ ∧ _ ∧ _ ∧ _ ∧ _)
  case' _ =>
    go_upto_region 4 with (fail)
    have BU1 := BS1
    have BU2 := BS2
    have BUM := BM
    have HB5 := HB3
    clear BS1 BS2 BM HB3
    generalize W3 = W5 at *
    generalize pk = wk at *
  rotate_left
  case' _ =>
    go_wp2_with fail
    refine (other_any pk ps pd nk ns nd _).mono ?_
    rintro e w4 ⟨rfl, hb4⟩
    have HB4 := Lib.hid (bel_go HB3.out hb4)
    have BV1 := Lib.hid (Blk.go BS1.out hb4)
    have BV2 := Lib.hid (Blk.go BS2.out hb4)
    have BVM := Lib.hid (Blk.go BM.out hb4)
    clear hb4 BS1 BS2 BM HB3
    clear m0 mf0 m1 mf1 m2 mf2 m3 mf3 m4 mf4 m5 mf5
    obtain ⟨m0, m1, m2, m3, m4, m5⟩ := BVM.out.six
    obtain ⟨mf0, mf1, mf2, mf3, mf4, mf5⟩ := (⟨BVM.out.free 0, BVM.out.free 1, BVM.out.free 2, BVM.out.free 3, BVM.out.free 4, BVM.out.free 5⟩ : _ ∧ _ ∧ _ ∧ _ ∧ _ ∧ _)
    go_upto_region 4 with (fail)
    have BU1 := Lib.hid (blk6o BV1.out hne0 (.int .i64 nk) (.int .i64 ns) (.int .i64 nd) (.int .i64 pk) (.int .i64 ps) (.int .i64 pd))
    have BU2 := Lib.hid (blk6o BV2.out hne2 (.int .i64 nk) (.int .i64 ns) (.int .i64 nd) (.int .i64 pk) (.int .i64 ps) (.int .i64 pd))
    have BUM := Lib.hid (blk6 BVM.out (.int .i64 nk) (.int .i64 ns) (.int .i64 nd) (.int .i64 pk) (.int .i64 ps) (.int .i64 pd))
    have HB5 := Lib.hid ((((((HB4.out.setCell (p := ⟨gm, 0, none⟩) hgw (.int .i64 nk)).setCell (p := ⟨gm, 1, none⟩) hgw (.int .i64 ns)).setCell (p := ⟨gm, 2, none⟩) hgw (.int .i64 nd)).setCell (p := ⟨gm, 3, none⟩) hgw (.int .i64 pk)).setCell (p := ⟨gm, 4, none⟩) hgw (.int .i64 ps)).setCell (p := ⟨gm, 5, none⟩) hgw (.int .i64 pd))
    generalize hW5 : (World.setCell (World.setCell (World.setCell (World.setCell (World.setCell (World.setCell w4 ⟨gm, 0, none⟩ (.int .i64 nk)) ⟨gm, 1, none⟩ (.int .i64 ns)) ⟨gm, 2, none⟩ (.int .i64 nd)) ⟨gm, 3, none⟩ (.int .i64 pk)) ⟨gm, 4, none⟩ (.int .i64 ps)) ⟨gm, 5, none⟩ (.int .i64 pd)) = W5 at *
    clear hW5 BV1 BV2 BVM HB4
    generalize nk = wk at *
  rotate_left
  all_goals
    clear m0 mf0 m1 mf1 m2 mf2 m3 mf3 m4 mf4 m5 mf5
    obtain ⟨m0, m1, m2, m3, m4, m5⟩ := BUM.out.six
    cases hcb : constI wk
    rotate_left
    · have HR := Lib.hid (show res = Fm.c wk by rw [HV.out]; unfold turnC sel; simp [hcb])
      have HC := Lib.hid (fun w' => const_any wk w')
      rw [hcb] at HC
      clear hcb
      have tk := BU2.out.nine; have yr0 := tk.c0; have yr1 := tk.c1; have yr2 := tk.c2; have yr3 := tk.c3; have yr4 := tk.c4; have yr5 := tk.c5; have yr6 := tk.c6; have yr7 := tk.c7; have yr8 := tk.c8; clear tk
      have tk := BU2.out.free9; have yf0 := tk.c0; have yf1 := tk.c1; have yf2 := tk.c2; have yf3 := tk.c3; have yf4 := tk.c4; have yf5 := tk.c5; have yf6 := tk.c6; have yf7 := tk.c7; have yf8 := tk.c8; clear tk
      have hB := HB5.out
      go_wp2_with fail
      refine (HC.out _).mono ?_
      rintro e w6 ⟨rfl, rfl⟩
      go_wp2_with fail
      refine bodyPost_ret (v := .agg #[.int .i64 wk, .string ⟨#[]⟩, .int .i64 0, .string ⟨#[]⟩, .slice none 0 0, .int .i64 0, .string ⟨#[]⟩, .slice none 0 0, .slice none 0 0]) ?_ rfl ⟨?_, bel9 hB (Nat.le_succ _) _ _ _ _ _ _ _ _ _⟩
      · simp [results, Tryz.results19, go_sem, yr0, yr1, yr2, yr3, yr4, yr5, yr6, yr7, yr8]
      · rw [HR.out]; exact FRes.const _ _ _
    have HC := Lib.hid (fun w' => const_any wk w')
    rw [hcb] at HC
    have HCB := Lib.hid hcb
    clear hcb
    have z0 := BU1.out.nine.c0
    go_wp2_with fail
    refine (HC.out _).mono ?_
    rintro e w6 ⟨rfl, rfl⟩
  rotate_left
  case' _ =>
    go_wp2_with fail
    refine (dual_any k _).mono ?_
    rintro e w6 ⟨rfl, rfl⟩
  rotate_left
  all_goals
    go_upto_region 10 with (fail)
    clear m0 m1 m2 m3 m4 m5 BUM
  all_goals
    obtain rfl := HK.out
    have tk := BU1.out.nine; have z0 := tk.c0; have z1 := tk.c1; have z2 := tk.c2; have z3 := tk.c3; have z4 := tk.c4; have z5 := tk.c5; have z6 := tk.c6; have z7 := tk.c7; have z8 := tk.c8; clear tk
    have hB := HB5.out
  · have tk := BU2.out.nine; have yr0 := tk.c0; have yr1 := tk.c1; have yr2 := tk.c2; have yr3 := tk.c3; have yr4 := tk.c4; have yr5 := tk.c5; have yr6 := tk.c6; have yr7 := tk.c7; have yr8 := tk.c8; clear tk
    have tk := BU2.out.free9; have yf0 := tk.c0; have yf1 := tk.c1; have yf2 := tk.c2; have yf3 := tk.c3; have yf4 := tk.c4; have yf5 := tk.c5; have yf6 := tk.c6; have yf7 := tk.c7; have yf8 := tk.c8; clear tk
    have HR := Lib.hid (show res = (Fm.mk 1 n (.mk vl fl al) (.mk vr fr ar) ts) by rw [HV.out]; unfold turnC; simp [HCB.out, sel_f, sel_t])
    go_wp2_with fail
    refine bodyPost_ret (v := .agg #[.int .i64 1, .string n, .int .i64 vl, .string fl, .slice Al al.length cl, .int .i64 vr, .string fr, .slice Ar ar.length cr, .slice A ts.length c]) ?_ rfl ⟨?_, bel9 hB (Nat.le_succ _) _ _ _ _ _ _ _ _ _⟩
    · simp [results, Tryz.results19, go_sem, yr0, yr1, yr2, yr3, yr4, yr5, yr6, yr7, yr8]
    · rw [HR.out]; exact FRes.of (r3 G0.out (Stay.up (bel9 hB (Nat.le_succ _) _ _ _ _ _ _ _ _ _)))
  · have HR := Lib.hid (show res = Fm.one 2 ⟨#[]⟩ (Fm.mk 1 n (.mk vl fl al) (.mk vr fr ar) ts) by rw [HV.out]; unfold turnC; simp [HCB.out, sel_f, sel_t])
    have hWz := HB5.out.size
    have hn5 : w.heap.size + 1 ≠ W5.heap.size := by have := BU2.out.lt; omega
    have BA2 := Lib.hid (BU2.out.alloc (.cells #[.int .i64 1, .string n, .int .i64 vl, .string fl, .slice Al al.length cl, .int .i64 vr, .string fr, .slice Ar ar.length cr, .slice A ts.length c] 27))
    have tk := BA2.out.nine; have yr0 := tk.c0; have yr1 := tk.c1; have yr2 := tk.c2; have yr3 := tk.c3; have yr4 := tk.c4; have yr5 := tk.c5; have yr6 := tk.c6; have yr7 := tk.c7; have yr8 := tk.c8; clear tk
    have tk := BA2.out.free9; have yf0 := tk.c0; have yf1 := tk.c1; have yf2 := tk.c2; have yf3 := tk.c3; have yf4 := tk.c4; have yf5 := tk.c5; have yf6 := tk.c6; have yf7 := tk.c7; have yf8 := tk.c8; clear tk
    go_wp2_with fail
    refine bodyPost_ret (v := .agg #[.int .i64 2, .string ⟨#[]⟩, .int .i64 0, .string ⟨#[]⟩, .slice none 0 0, .int .i64 0, .string ⟨#[]⟩, .slice none 0 0, .slice (some ⟨W5.heap.size, 0, none⟩) 1 1]) ?_ rfl ⟨?_, bel9 (hB.alloc hB.size _) (Nat.le_succ _) _ _ _ _ _ _ _ _ _⟩
    · simp [results, Tryz.results19, go_sem, yr0, yr1, yr2, yr3, yr4, yr5, yr6, yr7, yr8]
    · rw [HR.out]; exact FRes.one 2 ⟨#[]⟩ (blk9o (Blk.new W5 27 [.int .i64 1, .string n, .int .i64 vl, .string fl, .slice Al al.length cl, .int .i64 vr, .string fr, .slice Ar ar.length cr, .slice A ts.length c]) hn5 _ _ _ _ _ _ _ _ _) (Or.inr hWz) (r3 G0.out (Stay.up (bel9 (hB.alloc hB.size _) (Nat.le_succ _) _ _ _ _ _ _ _ _ _)))
set_option maxRecDepth 100000 in
set_option maxHeartbeats 25600000 in
theorem turnB (N : Nat) (ih : TurnAt 19 N) (k : Int) (n : ByteArray) (vl : Int) (fl : ByteArray) (al : List Tm) (vr : Int) (fr : ByteArray) (ar : List Tm) (ts : List Fm) (Al : Option Addr) (cl : Nat) (Ar : Option Addr) (cr : Nat) (A : Option Addr) (c : Nat) (a1 : Fm) (S : Nat → Prop) (w : World) (neg : Bool) (h : k = 2 ∨ k = 7 ∨ k = 8) (hts : ts = [a1]) (hN : (Fm.mk k n (.mk vl fl al) (.mk vr fr ar) ts).wt ≤ N + 1) (hNN : N ≤ 1125899906842623) (hsh : (Fm.mk k n (.mk vl fl al) (.mk vr fr ar) ts).shape = true) (hsh1 : a1.shape = true) (hl : ST S w Al al.length cl al) (hr : ST S w Ar ar.length cr ar) (hs : SF S w A ts.length c ts) : Calls Tryz.prog 19 #[.agg #[.int .i64 k, .string n, .int .i64 vl, .string fl, .slice Al al.length cl, .int .i64 vr, .string fr, .slice Ar ar.length cr, .slice A ts.length c], .bool neg] w fun e w' => FRes (Up S w) w' (sel neg (Fm.turn (Fm.mk k n (.mk vl fl al) (.mk vr fr ar) ts))) e ∧ Below w.heap.size w w' := by
  have HK := Lib.hid h
  clear h
  have hN' : (Fm.mk k n (.mk vl fl al) (.mk vr fr ar) ts).wt ≤ 1125899906842624 := by omega
  have HME := Lib.hid (fun w' (hb : Below w.heap.size w w') => measured0 1125899906842624 k n vl fl al vr fr ar ts Al cl Ar cr A c S w' hN' (Nat.le_refl _) hsh (hl.stay (Stay.below hb)) (hr.stay (Stay.below hb)) (hs.stay (Stay.below hb)))
  have HV := Lib.hid (turn_sel neg k n (.mk vl fl al) (.mk vr fr ar) ts)
  generalize sel neg (Fm.turn (Fm.mk k n (.mk vl fl al) (.mk vr fr ar) ts)) = res at *
  generalize hmm : Fm.meas (Fm.mk k n (.mk vl fl al) (.mk vr fr ar) ts) = m at *
  clear hmm
  obtain ⟨⟨pk, ps, pd⟩, ⟨nk, ns, nd⟩⟩ := m
  simp only at HME
  clear hN' hsh
  subst hts
  have hs := hs.stay Stay.low'
  obtain ⟨b, o, hA1, k1, n1, vl1, fl1, al1, vr1, fr1, ar1, ts1, Al1, cl1, Ar1, cr1, A1, c1, hm1, hl1, hr1, hs1, p0, p1, p2, p3, p4, p5, p6, p7, p8⟩ := hs.at 0 (by simp)
  change a1 = _ at hm1
  subst hm1
  subst hA1
  simp only [Nat.zero_mul, Nat.one_mul, Nat.add_zero] at p0 p1 p2 p3 p4 p5 p6 p7 p8
  have hw : (Fm.mk k1 n1 (.mk vl1 fl1 al1) (.mk vr1 fr1 ar1) ts1).wt + 3 ≤ N + 1 := by have hh := hN; rw [Fm.wt, Fm.wts, Fm.wts] at hh; have := (Tm.mk vl fl al).wt_pos; have := (Tm.mk vr fr ar).wt_pos; omega
  have HI1 := Lib.hid (fun w' (hb : Below w.heap.size w w') neg => (show Calls Tryz.prog 19 #[.agg #[.int .i64 k1, .string n1, .int .i64 vl1, .string fl1, .slice Al1 al1.length cl1, .int .i64 vr1, .string fr1, .slice Ar1 ar1.length cr1, .slice A1 ts1.length c1], .bool neg] w' fun e w2 => FRes (Lo S w w') w2 (sel neg (Fm.turn (Fm.mk k1 n1 (.mk vl1 fl1 al1) (.mk vr1 fr1 ar1) ts1))) e ∧ Below w'.heap.size w' w2 from ih k1 n1 vl1 fl1 al1 vr1 fr1 ar1 ts1 Al1 cl1 Ar1 cr1 A1 c1 _ w' neg (by omega) (by omega) hsh1 (hl1.stay (Stay.below hb)) (hr1.stay (Stay.below hb)) (hs1.stay (Stay.below hb))))
  rw [Fm.turnL, Fm.turnL] at HV
  generalize Fm.turn (Fm.mk k1 n1 (.mk vl1 fl1 al1) (.mk vr1 fr1 ar1) ts1) = t1 at *
  have hbw := World.block_lt_of_cell? w _ p0
  have HP := Lib.hid (show C9 w b o (.int .i64 k1) (.string n1) (.int .i64 vl1) (.string fl1) (.slice Al1 al1.length cl1) (.int .i64 vr1) (.string fr1) (.slice Ar1 ar1.length cr1) (.slice A1 ts1.length c1) from ⟨p0, p1, p2, p3, p4, p5, p6, p7, p8⟩)
  clear p0 p1 p2 p3 p4 p5 p6 p7 p8
  have hbw : b < w.heap.size := hbw
  clear ih hN hNN hw hsh1 hl1 hr1 hs1 hl hr hs
  have HB0 := Lib.hid (show Below w.heap.size w ((w.alloc (.cells #[.int .i64 k, .string n, .int .i64 vl, .string fl, .slice Al al.length cl, .int .i64 vr, .string fr, .slice Ar ar.length cr, .slice (some ⟨b, o, none⟩) 1 c] 27)).alloc (.cells #[.int .i64 0, .string ⟨#[]⟩, .int .i64 0, .string ⟨#[]⟩, .slice none 0 0, .int .i64 0, .string ⟨#[]⟩, .slice none 0 0, .slice none 0 0] 27)) from bel_two)
  have BK1 := Lib.hid ((Blk.new w 27 [.int .i64 k, .string n, .int .i64 vl, .string fl, .slice Al al.length cl, .int .i64 vr, .string fr, .slice Ar ar.length cr, .slice (some ⟨b, o, none⟩) 1 c]).alloc (.cells #[.int .i64 0, .string ⟨#[]⟩, .int .i64 0, .string ⟨#[]⟩, .slice none 0 0, .int .i64 0, .string ⟨#[]⟩, .slice none 0 0, .slice none 0 0] 27))
  have BK2 := Lib.hid (Blk.new' (w.alloc (.cells #[.int .i64 k, .string n, .int .i64 vl, .string fl, .slice Al al.length cl, .int .i64 vr, .string fr, .slice Ar ar.length cr, .slice (some ⟨b, o, none⟩) 1 c] 27)) (w.heap.size + 1) 27 [.int .i64 0, .string ⟨#[]⟩, .int .i64 0, .string ⟨#[]⟩, .slice none 0 0, .int .i64 0, .string ⟨#[]⟩, .slice none 0 0, .slice none 0 0] (by simp))
  simp only [List.toArray] at BK1 BK2
  cases neg
  all_goals
    go_enter Tryz.func19, Tryz.ntmps19
    go_upto_region 1 with (fail)
    generalize hW : (w.alloc (.cells #[.int .i64 k, .string n, .int .i64 vl, .string fl, .slice Al al.length cl, .int .i64 vr, .string fr, .slice Ar ar.length cr, .slice (some ⟨b, o, none⟩) 1 c] 27)).alloc (.cells #[.int .i64 0, .string ⟨#[]⟩, .int .i64 0, .string ⟨#[]⟩, .slice none 0 0, .int .i64 0, .string ⟨#[]⟩, .slice none 0 0, .slice none 0 0] 27) = W at *
    clear hW
    have tk := BK1.out.nine; have z0 := tk.c0; have z1 := tk.c1; have z2 := tk.c2; have z3 := tk.c3; have z4 := tk.c4; have z5 := tk.c5; have z6 := tk.c6; have z7 := tk.c7; have z8 := tk.c8; clear tk
    go_wp2_with fail
    refine (HME.out _ HB0.out).mono ?_
    rintro e w2 ⟨rfl, hb2⟩
    have HB2 := Lib.hid (bel_go HB0.out hb2)
    have BQ1 := Lib.hid (Blk.go BK1.out hb2)
    have BQ2 := Lib.hid (Blk.go BK2.out hb2)
    clear z0 z1 z2 z3 z4 z5 z6 z7 z8 hb2 BK1 BK2
    go_upto_region 2 with (fail)
    have BM := Lib.hid (Blk.new w2 47 [.int .i64 pk, .int .i64 ps, .int .i64 pd, .int .i64 nk, .int .i64 ns, .int .i64 nd])
    have BS1 := Lib.hid (BQ1.out.alloc (.cells #[.int .i64 pk, .int .i64 ps, .int .i64 pd, .int .i64 nk, .int .i64 ns, .int .i64 nd] 47))
    have BS2 := Lib.hid (BQ2.out.alloc (.cells #[.int .i64 pk, .int .i64 ps, .int .i64 pd, .int .i64 nk, .int .i64 ns, .int .i64 nd] 47))
    have HB3 := Lib.hid (Below.alloc HB2.out HB2.out.size (.cells #[.int .i64 pk, .int .i64 ps, .int .i64 pd, .int .i64 nk, .int .i64 ns, .int .i64 nd] 47))
    have hl1 := BQ1.out.lt
    have hl2 := BQ2.out.lt
    simp only [List.toArray] at BM
    generalize hgm : w2.heap.size = gm at *
    generalize hW3 : w2.alloc (.cells #[.int .i64 pk, .int .i64 ps, .int .i64 pd, .int .i64 nk, .int .i64 ns, .int .i64 nd] 47) = W3 at *
    clear hW3
    have hne1 : w.heap.size + 1 ≠ gm := by omega
    have hne2 : gm ≠ w.heap.size + 1 := by omega
    have hne0 : gm ≠ w.heap.size := by omega
    have hgw : w.heap.size ≤ gm := by omega
    clear hl1 hl2 hgm BQ1 BQ2
    obtain ⟨m0, m1, m2, m3, m4, m5⟩ := BM.out.six
    obtain ⟨mf0, mf1, mf2, mf3, mf4, mf5⟩ := (⟨BM.out.free 0, BM.out.free 1, BM.out.free 2, BM.out.free 3, BM.out.free 4, BM.out.free 5⟩ : _ ∧ _ ∧ _ ∧ _ ∧ _ ∧ _)
  case' _ =>
    go_upto_region 4 with (fail)
    have BU1 := BS1
    have BU2 := BS2
    have BUM := BM
    have HB5 := HB3
    clear BS1 BS2 BM HB3
    generalize W3 = W5 at *
    generalize pk = wk at *
  rotate_left
  case' _ =>
    go_wp2_with fail
    refine (other_any pk ps pd nk ns nd _).mono ?_
    rintro e w4 ⟨rfl, hb4⟩
    have HB4 := Lib.hid (bel_go HB3.out hb4)
    have BV1 := Lib.hid (Blk.go BS1.out hb4)
    have BV2 := Lib.hid (Blk.go BS2.out hb4)
    have BVM := Lib.hid (Blk.go BM.out hb4)
    clear hb4 BS1 BS2 BM HB3
    clear m0 mf0 m1 mf1 m2 mf2 m3 mf3 m4 mf4 m5 mf5
    obtain ⟨m0, m1, m2, m3, m4, m5⟩ := BVM.out.six
    obtain ⟨mf0, mf1, mf2, mf3, mf4, mf5⟩ := (⟨BVM.out.free 0, BVM.out.free 1, BVM.out.free 2, BVM.out.free 3, BVM.out.free 4, BVM.out.free 5⟩ : _ ∧ _ ∧ _ ∧ _ ∧ _ ∧ _)
    go_upto_region 4 with (fail)
    have BU1 := Lib.hid (blk6o BV1.out hne0 (.int .i64 nk) (.int .i64 ns) (.int .i64 nd) (.int .i64 pk) (.int .i64 ps) (.int .i64 pd))
    have BU2 := Lib.hid (blk6o BV2.out hne2 (.int .i64 nk) (.int .i64 ns) (.int .i64 nd) (.int .i64 pk) (.int .i64 ps) (.int .i64 pd))
    have BUM := Lib.hid (blk6 BVM.out (.int .i64 nk) (.int .i64 ns) (.int .i64 nd) (.int .i64 pk) (.int .i64 ps) (.int .i64 pd))
    have HB5 := Lib.hid ((((((HB4.out.setCell (p := ⟨gm, 0, none⟩) hgw (.int .i64 nk)).setCell (p := ⟨gm, 1, none⟩) hgw (.int .i64 ns)).setCell (p := ⟨gm, 2, none⟩) hgw (.int .i64 nd)).setCell (p := ⟨gm, 3, none⟩) hgw (.int .i64 pk)).setCell (p := ⟨gm, 4, none⟩) hgw (.int .i64 ps)).setCell (p := ⟨gm, 5, none⟩) hgw (.int .i64 pd))
    generalize hW5 : (World.setCell (World.setCell (World.setCell (World.setCell (World.setCell (World.setCell w4 ⟨gm, 0, none⟩ (.int .i64 nk)) ⟨gm, 1, none⟩ (.int .i64 ns)) ⟨gm, 2, none⟩ (.int .i64 nd)) ⟨gm, 3, none⟩ (.int .i64 pk)) ⟨gm, 4, none⟩ (.int .i64 ps)) ⟨gm, 5, none⟩ (.int .i64 pd)) = W5 at *
    clear hW5 BV1 BV2 BVM HB4
    generalize nk = wk at *
  rotate_left
  all_goals
    clear m0 mf0 m1 mf1 m2 mf2 m3 mf3 m4 mf4 m5 mf5
    obtain ⟨m0, m1, m2, m3, m4, m5⟩ := BUM.out.six
    cases hcb : constI wk
    rotate_left
    · have HR := Lib.hid (show res = Fm.c wk by rw [HV.out]; unfold turnC sel; simp [hcb])
      have HC := Lib.hid (fun w' => const_any wk w')
      rw [hcb] at HC
      clear hcb
      have tk := BU2.out.nine; have yr0 := tk.c0; have yr1 := tk.c1; have yr2 := tk.c2; have yr3 := tk.c3; have yr4 := tk.c4; have yr5 := tk.c5; have yr6 := tk.c6; have yr7 := tk.c7; have yr8 := tk.c8; clear tk
      have tk := BU2.out.free9; have yf0 := tk.c0; have yf1 := tk.c1; have yf2 := tk.c2; have yf3 := tk.c3; have yf4 := tk.c4; have yf5 := tk.c5; have yf6 := tk.c6; have yf7 := tk.c7; have yf8 := tk.c8; clear tk
      have hB := HB5.out
      go_wp2_with fail
      refine (HC.out _).mono ?_
      rintro e w6 ⟨rfl, rfl⟩
      go_wp2_with fail
      refine bodyPost_ret (v := .agg #[.int .i64 wk, .string ⟨#[]⟩, .int .i64 0, .string ⟨#[]⟩, .slice none 0 0, .int .i64 0, .string ⟨#[]⟩, .slice none 0 0, .slice none 0 0]) ?_ rfl ⟨?_, bel9 hB (Nat.le_succ _) _ _ _ _ _ _ _ _ _⟩
      · simp [results, Tryz.results19, go_sem, yr0, yr1, yr2, yr3, yr4, yr5, yr6, yr7, yr8]
      · rw [HR.out]; exact FRes.const _ _ _
    have HC := Lib.hid (fun w' => const_any wk w')
    rw [hcb] at HC
    have HCB := Lib.hid hcb
    clear hcb
    have z0 := BU1.out.nine.c0
    go_wp2_with fail
    refine (HC.out _).mono ?_
    rintro e w6 ⟨rfl, rfl⟩
  rotate_left
  case' _ =>
    go_wp2_with fail
    refine (dual_any k _).mono ?_
    rintro e w6 ⟨rfl, rfl⟩
  rotate_left
  all_goals
    go_upto_region 10 with (fail)
    clear m0 m1 m2 m3 m4 m5 BUM
  all_goals
    have tk := BU1.out.nine; have z0 := tk.c0; have z1 := tk.c1; have z2 := tk.c2; have z3 := tk.c3; have z4 := tk.c4; have z5 := tk.c5; have z6 := tk.c6; have z7 := tk.c7; have z8 := tk.c8; clear tk
    have tk := HP.out.keep HB5.out; have e0 := tk.c0; have e1 := tk.c1; have e2 := tk.c2; have e3 := tk.c3; have e4 := tk.c4; have e5 := tk.c5; have e6 := tk.c6; have e7 := tk.c7; have e8 := tk.c8; clear tk
    have hno : ¬ Lo S w W5 (w.heap.size + 1) := lo_not (by omega) BU2.out.lt
    have hsz := HB5.out.size
    rcases HK.out with rfl | h78
    · go_wp2_with fail
      refine (HI1.out _ HB5.out _).mono ?_
      rintro e w7 ⟨⟨gk7, gn7, gvl7, gfl7, gal7, gvr7, gfr7, gar7, gts7, gAl7, gcl7, gAr7, gcr7, gA7, gc7, hg7, rfl, gr7⟩, hb9⟩
      have HR := Lib.hid (show res = (Fm.mk gk7 gn7 (.mk gvl7 gfl7 gal7) (.mk gvr7 gfr7 gar7) gts7) by rw [HV.out, ← hg7]; unfold turnC; simp [HCB.out, kd1, sel_f, sel_t])
      have hB := bel_go HB5.out hb9
      have BR := Lib.hid (Blk.go BU2.out hb9)
      clear hg7 hb9
      have GR := Lib.hid gr7
      clear gr7
      clear z0 e0 z1 e1 z2 e2 z3 e3 z4 e4 z5 e5 z6 e6 z7 e7 z8 e8
      have tk := BR.out.nine; have yr0 := tk.c0; have yr1 := tk.c1; have yr2 := tk.c2; have yr3 := tk.c3; have yr4 := tk.c4; have yr5 := tk.c5; have yr6 := tk.c6; have yr7 := tk.c7; have yr8 := tk.c8; clear tk
      have tk := BR.out.free9; have yf0 := tk.c0; have yf1 := tk.c1; have yf2 := tk.c2; have yf3 := tk.c3; have yf4 := tk.c4; have yf5 := tk.c5; have yf6 := tk.c6; have yf7 := tk.c7; have yf8 := tk.c8; clear tk
      go_wp2_with fail
      refine bodyPost_ret (v := .agg #[.int .i64 gk7, .string gn7, .int .i64 gvl7, .string gfl7, .slice gAl7 gal7.length gcl7, .int .i64 gvr7, .string gfr7, .slice gAr7 gar7.length gcr7, .slice gA7 gts7.length gc7]) ?_ rfl ⟨?_, bel9 hB (Nat.le_succ _) _ _ _ _ _ _ _ _ _⟩
      · simp [results, Tryz.results19, go_sem, yr0, yr1, yr2, yr3, yr4, yr5, yr6, yr7, yr8]
      · rw [HR.out]; exact FRes.of (r3 GR.out ((Stay.set9 hno _ _ _ _ _ _ _ _ _).trans (Stay.lo_up hsz)))
    · rcases h78 with rfl | rfl
      all_goals
        go_wp2_with fail
        refine (HI1.out _ HB5.out _).mono ?_
        rintro e w7 ⟨⟨gk7, gn7, gvl7, gfl7, gal7, gvr7, gfr7, gar7, gts7, gAl7, gcl7, gAr7, gcr7, gA7, gc7, hg7, rfl, gr7⟩, hb9⟩
        have HB7 := Lib.hid (bel_go HB5.out hb9)
        have BX1 := Lib.hid (Blk.go BU1.out hb9)
        have BX2 := Lib.hid (Blk.go BU2.out hb9)
        have GR := Lib.hid (r3 gr7 (Stay.al (.cells #[.int .i64 gk7, .string gn7, .int .i64 gvl7, .string gfl7, .slice gAl7 gal7.length gcl7, .int .i64 gvr7, .string gfr7, .slice gAr7 gar7.length gcr7, .slice gA7 gts7.length gc7] 27)))
        have GG := Lib.hid hg7
        clear gr7 hg7 hb9
        clear z0 e0 z1 e1 z2 e2 z3 e3 z4 e4 z5 e5 z6 e6 z7 e7 z8 e8
        go_upto_region 22 with (fail)
        have BN := Lib.hid (Blk.new w7 27 [.int .i64 gk7, .string gn7, .int .i64 gvl7, .string gfl7, .slice gAl7 gal7.length gcl7, .int .i64 gvr7, .string gfr7, .slice gAr7 gar7.length gcr7, .slice gA7 gts7.length gc7])
        have BY1 := Lib.hid (BX1.out.alloc (.cells #[.int .i64 gk7, .string gn7, .int .i64 gvl7, .string gfl7, .slice gAl7 gal7.length gcl7, .int .i64 gvr7, .string gfr7, .slice gAr7 gar7.length gcr7, .slice gA7 gts7.length gc7] 27))
        have BY2 := Lib.hid (BX2.out.alloc (.cells #[.int .i64 gk7, .string gn7, .int .i64 gvl7, .string gfl7, .slice gAl7 gal7.length gcl7, .int .i64 gvr7, .string gfr7, .slice gAr7 gar7.length gcr7, .slice gA7 gts7.length gc7] 27))
        have HB8 := Lib.hid (Below.alloc HB7.out HB7.out.size (.cells #[.int .i64 gk7, .string gn7, .int .i64 gvl7, .string gfl7, .slice gAl7 gal7.length gcl7, .int .i64 gvr7, .string gfr7, .slice gAr7 gar7.length gcr7, .slice gA7 gts7.length gc7] 27))
        have hlt := BX2.out.lt
        simp only [List.toArray] at BN
        generalize hgm : w7.heap.size = g7 at *
        generalize hW8 : w7.alloc (.cells #[.int .i64 gk7, .string gn7, .int .i64 gvl7, .string gfl7, .slice gAl7 gal7.length gcl7, .int .i64 gvr7, .string gfr7, .slice gAr7 gar7.length gcr7, .slice gA7 gts7.length gc7] 27) = W8 at *
        have hna : w.heap.size + 1 ≠ g7 := by omega
        have hnb : g7 ≠ w.heap.size + 1 := by omega
        clear hgm hW8 BX1 BX2 hlt
        have tk := BN.out.nine; have m0 := tk.c0; have m1 := tk.c1; have m2 := tk.c2; have m3 := tk.c3; have m4 := tk.c4; have m5 := tk.c5; have m6 := tk.c6; have m7 := tk.c7; have m8 := tk.c8; clear tk
        cases hck : constI gk7
        rotate_left
        · have HR := Lib.hid (show res = (Fm.mk gk7 gn7 (.mk gvl7 gfl7 gal7) (.mk gvr7 gfr7 gar7) gts7) by rw [HV.out]; unfold turnC; have := GG.out; simp [HCB.out, sel_f, sel_t, kd1, this, Fm.kind, hck])
          have HD := Lib.hid (fun w' => const_any gk7 w')
          rw [hck] at HD
          clear hck
          have tk := BY2.out.nine; have yr0 := tk.c0; have yr1 := tk.c1; have yr2 := tk.c2; have yr3 := tk.c3; have yr4 := tk.c4; have yr5 := tk.c5; have yr6 := tk.c6; have yr7 := tk.c7; have yr8 := tk.c8; clear tk
          have tk := BY2.out.free9; have yf0 := tk.c0; have yf1 := tk.c1; have yf2 := tk.c2; have yf3 := tk.c3; have yf4 := tk.c4; have yf5 := tk.c5; have yf6 := tk.c6; have yf7 := tk.c7; have yf8 := tk.c8; clear tk
          have hB := HB8.out
          go_wp2_with fail
          refine (HD.out _).mono ?_
          rintro e w9 ⟨rfl, rfl⟩
          go_wp2_with fail
          refine bodyPost_ret (v := .agg #[.int .i64 gk7, .string gn7, .int .i64 gvl7, .string gfl7, .slice gAl7 gal7.length gcl7, .int .i64 gvr7, .string gfr7, .slice gAr7 gar7.length gcr7, .slice gA7 gts7.length gc7]) ?_ rfl ⟨?_, bel9 hB (Nat.le_succ _) _ _ _ _ _ _ _ _ _⟩
          · simp [results, Tryz.results19, go_sem, yr0, yr1, yr2, yr3, yr4, yr5, yr6, yr7, yr8]
          · rw [HR.out]; exact FRes.of (r3 GR.out ((Stay.set9 hno _ _ _ _ _ _ _ _ _).trans (Stay.lo_up hsz)))
        · have HD := Lib.hid (fun w' => const_any gk7 w')
          rw [hck] at HD
          have HCK := Lib.hid hck
          clear hck
          have z1 := BY1.out.nine.c1
          have z0 := BY1.out.nine.c0
          have hWz := HB8.out.size
          have hn5 : w.heap.size + 1 ≠ W8.heap.size := by have := BY2.out.lt; omega
          have BA2 := Lib.hid (BY2.out.alloc (.cells #[.int .i64 gk7, .string gn7, .int .i64 gvl7, .string gfl7, .slice gAl7 gal7.length gcl7, .int .i64 gvr7, .string gfr7, .slice gAr7 gar7.length gcr7, .slice gA7 gts7.length gc7] 27))
          have tk := BA2.out.nine; have yr0 := tk.c0; have yr1 := tk.c1; have yr2 := tk.c2; have yr3 := tk.c3; have yr4 := tk.c4; have yr5 := tk.c5; have yr6 := tk.c6; have yr7 := tk.c7; have yr8 := tk.c8; clear tk
          have tk := BA2.out.free9; have yf0 := tk.c0; have yf1 := tk.c1; have yf2 := tk.c2; have yf3 := tk.c3; have yf4 := tk.c4; have yf5 := tk.c5; have yf6 := tk.c6; have yf7 := tk.c7; have yf8 := tk.c8; clear tk
          have hB := HB8.out.alloc HB8.out.size (.cells #[.int .i64 gk7, .string gn7, .int .i64 gvl7, .string gfl7, .slice gAl7 gal7.length gcl7, .int .i64 gvr7, .string gfr7, .slice gAr7 gar7.length gcr7, .slice gA7 gts7.length gc7] 27)
          go_wp2_with fail
          refine (HD.out _).mono ?_
          rintro e w9 ⟨rfl, rfl⟩
          go_wp2_with fail
          first
          | (refine bodyPost_ret (v := .agg #[.int .i64 7, .string n, .int .i64 0, .string ⟨#[]⟩, .slice none 0 0, .int .i64 0, .string ⟨#[]⟩, .slice none 0 0, .slice (some ⟨W8.heap.size, 0, none⟩) 1 1]) ?_ rfl ⟨?_, bel9 hB (Nat.le_succ _) _ _ _ _ _ _ _ _ _⟩; (focus (simp [results, Tryz.results19, go_sem, yr0, yr1, yr2, yr3, yr4, yr5, yr6, yr7, yr8]; done)); rw [show res = Fm.one 7 n (Fm.mk gk7 gn7 (.mk gvl7 gfl7 gal7) (.mk gvr7 gfr7 gar7) gts7) by rw [HV.out]; unfold turnC; have := GG.out; simp [HCB.out, sel_f, sel_t, kd1, this, Fm.kind, HCK.out, dualI]]; exact FRes.one _ _ (blk9o (Blk.new W8 27 [.int .i64 gk7, .string gn7, .int .i64 gvl7, .string gfl7, .slice gAl7 gal7.length gcl7, .int .i64 gvr7, .string gfr7, .slice gAr7 gar7.length gcr7, .slice gA7 gts7.length gc7]) hn5 _ _ _ _ _ _ _ _ _) (Or.inr hWz) (r3 GR.out (((Stay.al _).trans (Stay.set9 hno _ _ _ _ _ _ _ _ _)).trans (Stay.lo_up hsz))))
          | (refine bodyPost_ret (v := .agg #[.int .i64 8, .string n, .int .i64 0, .string ⟨#[]⟩, .slice none 0 0, .int .i64 0, .string ⟨#[]⟩, .slice none 0 0, .slice (some ⟨W8.heap.size, 0, none⟩) 1 1]) ?_ rfl ⟨?_, bel9 hB (Nat.le_succ _) _ _ _ _ _ _ _ _ _⟩; (focus (simp [results, Tryz.results19, go_sem, yr0, yr1, yr2, yr3, yr4, yr5, yr6, yr7, yr8]; done)); rw [show res = Fm.one 8 n (Fm.mk gk7 gn7 (.mk gvl7 gfl7 gal7) (.mk gvr7 gfr7 gar7) gts7) by rw [HV.out]; unfold turnC; have := GG.out; simp [HCB.out, sel_f, sel_t, kd1, this, Fm.kind, HCK.out, dualI]]; exact FRes.one _ _ (blk9o (Blk.new W8 27 [.int .i64 gk7, .string gn7, .int .i64 gvl7, .string gfl7, .slice gAl7 gal7.length gcl7, .int .i64 gvr7, .string gfr7, .slice gAr7 gar7.length gcr7, .slice gA7 gts7.length gc7]) hn5 _ _ _ _ _ _ _ _ _) (Or.inr hWz) (r3 GR.out (((Stay.al _).trans (Stay.set9 hno _ _ _ _ _ _ _ _ _)).trans (Stay.lo_up hsz))))
          | (refine bodyPost_ret (v := .agg #[.int .i64 (dualI 7), .string n, .int .i64 0, .string ⟨#[]⟩, .slice none 0 0, .int .i64 0, .string ⟨#[]⟩, .slice none 0 0, .slice (some ⟨W8.heap.size, 0, none⟩) 1 1]) ?_ rfl ⟨?_, bel9 hB (Nat.le_succ _) _ _ _ _ _ _ _ _ _⟩; (focus (simp [results, Tryz.results19, go_sem, yr0, yr1, yr2, yr3, yr4, yr5, yr6, yr7, yr8]; done)); rw [show res = Fm.one (dualI 7) n (Fm.mk gk7 gn7 (.mk gvl7 gfl7 gal7) (.mk gvr7 gfr7 gar7) gts7) by rw [HV.out]; unfold turnC; have := GG.out; simp [HCB.out, sel_f, sel_t, kd1, this, Fm.kind, HCK.out, dualI]]; exact FRes.one _ _ (blk9o (Blk.new W8 27 [.int .i64 gk7, .string gn7, .int .i64 gvl7, .string gfl7, .slice gAl7 gal7.length gcl7, .int .i64 gvr7, .string gfr7, .slice gAr7 gar7.length gcr7, .slice gA7 gts7.length gc7]) hn5 _ _ _ _ _ _ _ _ _) (Or.inr hWz) (r3 GR.out (((Stay.al _).trans (Stay.set9 hno _ _ _ _ _ _ _ _ _)).trans (Stay.lo_up hsz))))
          | (refine bodyPost_ret (v := .agg #[.int .i64 (dualI 8), .string n, .int .i64 0, .string ⟨#[]⟩, .slice none 0 0, .int .i64 0, .string ⟨#[]⟩, .slice none 0 0, .slice (some ⟨W8.heap.size, 0, none⟩) 1 1]) ?_ rfl ⟨?_, bel9 hB (Nat.le_succ _) _ _ _ _ _ _ _ _ _⟩; (focus (simp [results, Tryz.results19, go_sem, yr0, yr1, yr2, yr3, yr4, yr5, yr6, yr7, yr8]; done)); rw [show res = Fm.one (dualI 8) n (Fm.mk gk7 gn7 (.mk gvl7 gfl7 gal7) (.mk gvr7 gfr7 gar7) gts7) by rw [HV.out]; unfold turnC; have := GG.out; simp [HCB.out, sel_f, sel_t, kd1, this, Fm.kind, HCK.out, dualI]]; exact FRes.one _ _ (blk9o (Blk.new W8 27 [.int .i64 gk7, .string gn7, .int .i64 gvl7, .string gfl7, .slice gAl7 gal7.length gcl7, .int .i64 gvr7, .string gfr7, .slice gAr7 gar7.length gcr7, .slice gA7 gts7.length gc7]) hn5 _ _ _ _ _ _ _ _ _) (Or.inr hWz) (r3 GR.out (((Stay.al _).trans (Stay.set9 hno _ _ _ _ _ _ _ _ _)).trans (Stay.lo_up hsz))))
set_option maxRecDepth 100000 in
set_option maxHeartbeats 25600000 in
theorem turnZ (k : Int) (n : ByteArray) (vl : Int) (fl : ByteArray) (al : List Tm) (vr : Int) (fr : ByteArray) (ar : List Tm) (ts : List Fm) (Al : Option Addr) (cl : Nat) (Ar : Option Addr) (cr : Nat) (A : Option Addr) (c : Nat) (S : Nat → Prop) (w : World) (neg : Bool) (h : k = 9 ∨ k = 10) (hN' : (Fm.mk k n (.mk vl fl al) (.mk vr fr ar) ts).wt ≤ 1125899906842624) (hsh : (Fm.mk k n (.mk vl fl al) (.mk vr fr ar) ts).shape = true) (hl : ST S w Al al.length cl al) (hr : ST S w Ar ar.length cr ar) (hs : SF S w A ts.length c ts) : Calls Tryz.prog 19 #[.agg #[.int .i64 k, .string n, .int .i64 vl, .string fl, .slice Al al.length cl, .int .i64 vr, .string fr, .slice Ar ar.length cr, .slice A ts.length c], .bool neg] w fun e w' => FRes (Up S w) w' (sel neg (Fm.turn (Fm.mk k n (.mk vl fl al) (.mk vr fr ar) ts))) e ∧ Below w.heap.size w w' := by
  have HZ := Lib.hid (show constI (Fm.meas (Fm.mk k n (.mk vl fl al) (.mk vr fr ar) ts)).1.k = true ∧ constI (Fm.meas (Fm.mk k n (.mk vl fl al) (.mk vr fr ar) ts)).2.k = true by rcases h with rfl | rfl <;> (rw [Fm.meas]; exact ⟨rfl, rfl⟩))
  clear h
  have HME := Lib.hid (fun w' (hb : Below w.heap.size w w') => measured0 1125899906842624 k n vl fl al vr fr ar ts Al cl Ar cr A c S w' hN' (Nat.le_refl _) hsh (hl.stay (Stay.below hb)) (hr.stay (Stay.below hb)) (hs.stay (Stay.below hb)))
  have HV := Lib.hid (turn_sel neg k n (.mk vl fl al) (.mk vr fr ar) ts)
  generalize sel neg (Fm.turn (Fm.mk k n (.mk vl fl al) (.mk vr fr ar) ts)) = res at *
  generalize hmm : Fm.meas (Fm.mk k n (.mk vl fl al) (.mk vr fr ar) ts) = m at *
  clear hmm
  obtain ⟨⟨pk, ps, pd⟩, ⟨nk, ns, nd⟩⟩ := m
  simp only at HME
  clear hl hr hs hsh hN'
  have HB0 := Lib.hid (show Below w.heap.size w ((w.alloc (.cells #[.int .i64 k, .string n, .int .i64 vl, .string fl, .slice Al al.length cl, .int .i64 vr, .string fr, .slice Ar ar.length cr, .slice A ts.length c] 27)).alloc (.cells #[.int .i64 0, .string ⟨#[]⟩, .int .i64 0, .string ⟨#[]⟩, .slice none 0 0, .int .i64 0, .string ⟨#[]⟩, .slice none 0 0, .slice none 0 0] 27)) from bel_two)
  have BK1 := Lib.hid ((Blk.new w 27 [.int .i64 k, .string n, .int .i64 vl, .string fl, .slice Al al.length cl, .int .i64 vr, .string fr, .slice Ar ar.length cr, .slice A ts.length c]).alloc (.cells #[.int .i64 0, .string ⟨#[]⟩, .int .i64 0, .string ⟨#[]⟩, .slice none 0 0, .int .i64 0, .string ⟨#[]⟩, .slice none 0 0, .slice none 0 0] 27))
  have BK2 := Lib.hid (Blk.new' (w.alloc (.cells #[.int .i64 k, .string n, .int .i64 vl, .string fl, .slice Al al.length cl, .int .i64 vr, .string fr, .slice Ar ar.length cr, .slice A ts.length c] 27)) (w.heap.size + 1) 27 [.int .i64 0, .string ⟨#[]⟩, .int .i64 0, .string ⟨#[]⟩, .slice none 0 0, .int .i64 0, .string ⟨#[]⟩, .slice none 0 0, .slice none 0 0] (by simp))
  simp only [List.toArray] at BK1 BK2
  cases neg
  all_goals
    go_enter Tryz.func19, Tryz.ntmps19
    go_upto_region 1 with (fail)
    generalize hW : (w.alloc (.cells #[.int .i64 k, .string n, .int .i64 vl, .string fl, .slice Al al.length cl, .int .i64 vr, .string fr, .slice Ar ar.length cr, .slice A ts.length c] 27)).alloc (.cells #[.int .i64 0, .string ⟨#[]⟩, .int .i64 0, .string ⟨#[]⟩, .slice none 0 0, .int .i64 0, .string ⟨#[]⟩, .slice none 0 0, .slice none 0 0] 27) = W at *
    clear hW
    have tk := BK1.out.nine; have z0 := tk.c0; have z1 := tk.c1; have z2 := tk.c2; have z3 := tk.c3; have z4 := tk.c4; have z5 := tk.c5; have z6 := tk.c6; have z7 := tk.c7; have z8 := tk.c8; clear tk
    go_wp2_with fail
    refine (HME.out _ HB0.out).mono ?_
    rintro e w2 ⟨rfl, hb2⟩
    have HB2 := Lib.hid (bel_go HB0.out hb2)
    have BQ1 := Lib.hid (Blk.go BK1.out hb2)
    have BQ2 := Lib.hid (Blk.go BK2.out hb2)
    clear z0 z1 z2 z3 z4 z5 z6 z7 z8 hb2 BK1 BK2
    go_upto_region 2 with (fail)
    have BM := Lib.hid (Blk.new w2 47 [.int .i64 pk, .int .i64 ps, .int .i64 pd, .int .i64 nk, .int .i64 ns, .int .i64 nd])
    have BS1 := Lib.hid (BQ1.out.alloc (.cells #[.int .i64 pk, .int .i64 ps, .int .i64 pd, .int .i64 nk, .int .i64 ns, .int .i64 nd] 47))
    have BS2 := Lib.hid (BQ2.out.alloc (.cells #[.int .i64 pk, .int .i64 ps, .int .i64 pd, .int .i64 nk, .int .i64 ns, .int .i64 nd] 47))
    have HB3 := Lib.hid (Below.alloc HB2.out HB2.out.size (.cells #[.int .i64 pk, .int .i64 ps, .int .i64 pd, .int .i64 nk, .int .i64 ns, .int .i64 nd] 47))
    have hl1 := BQ1.out.lt
    have hl2 := BQ2.out.lt
    simp only [List.toArray] at BM
    generalize hgm : w2.heap.size = gm at *
    generalize hW3 : w2.alloc (.cells #[.int .i64 pk, .int .i64 ps, .int .i64 pd, .int .i64 nk, .int .i64 ns, .int .i64 nd] 47) = W3 at *
    clear hW3
    have hne1 : w.heap.size + 1 ≠ gm := by omega
    have hne2 : gm ≠ w.heap.size + 1 := by omega
    have hne0 : gm ≠ w.heap.size := by omega
    have hgw : w.heap.size ≤ gm := by omega
    clear hl1 hl2 hgm BQ1 BQ2
    obtain ⟨m0, m1, m2, m3, m4, m5⟩ := BM.out.six
    obtain ⟨mf0, mf1, mf2, mf3, mf4, mf5⟩ := (⟨BM.out.free 0, BM.out.free 1, BM.out.free 2, BM.out.free 3, BM.out.free 4, BM.out.free 5⟩ : _ ∧ _ ∧ _ ∧ _ ∧ _ ∧ _)
  case' _ =>
    go_upto_region 4 with (fail)
    have BU1 := BS1
    have BU2 := BS2
    have BUM := BM
    have HB5 := HB3
    clear BS1 BS2 BM HB3
    generalize W3 = W5 at *
    generalize pk = wk at *
  rotate_left
  case' _ =>
    go_wp2_with fail
    refine (other_any pk ps pd nk ns nd _).mono ?_
    rintro e w4 ⟨rfl, hb4⟩
    have HB4 := Lib.hid (bel_go HB3.out hb4)
    have BV1 := Lib.hid (Blk.go BS1.out hb4)
    have BV2 := Lib.hid (Blk.go BS2.out hb4)
    have BVM := Lib.hid (Blk.go BM.out hb4)
    clear hb4 BS1 BS2 BM HB3
    clear m0 mf0 m1 mf1 m2 mf2 m3 mf3 m4 mf4 m5 mf5
    obtain ⟨m0, m1, m2, m3, m4, m5⟩ := BVM.out.six
    obtain ⟨mf0, mf1, mf2, mf3, mf4, mf5⟩ := (⟨BVM.out.free 0, BVM.out.free 1, BVM.out.free 2, BVM.out.free 3, BVM.out.free 4, BVM.out.free 5⟩ : _ ∧ _ ∧ _ ∧ _ ∧ _ ∧ _)
    go_upto_region 4 with (fail)
    have BU1 := Lib.hid (blk6o BV1.out hne0 (.int .i64 nk) (.int .i64 ns) (.int .i64 nd) (.int .i64 pk) (.int .i64 ps) (.int .i64 pd))
    have BU2 := Lib.hid (blk6o BV2.out hne2 (.int .i64 nk) (.int .i64 ns) (.int .i64 nd) (.int .i64 pk) (.int .i64 ps) (.int .i64 pd))
    have BUM := Lib.hid (blk6 BVM.out (.int .i64 nk) (.int .i64 ns) (.int .i64 nd) (.int .i64 pk) (.int .i64 ps) (.int .i64 pd))
    have HB5 := Lib.hid ((((((HB4.out.setCell (p := ⟨gm, 0, none⟩) hgw (.int .i64 nk)).setCell (p := ⟨gm, 1, none⟩) hgw (.int .i64 ns)).setCell (p := ⟨gm, 2, none⟩) hgw (.int .i64 nd)).setCell (p := ⟨gm, 3, none⟩) hgw (.int .i64 pk)).setCell (p := ⟨gm, 4, none⟩) hgw (.int .i64 ps)).setCell (p := ⟨gm, 5, none⟩) hgw (.int .i64 pd))
    generalize hW5 : (World.setCell (World.setCell (World.setCell (World.setCell (World.setCell (World.setCell w4 ⟨gm, 0, none⟩ (.int .i64 nk)) ⟨gm, 1, none⟩ (.int .i64 ns)) ⟨gm, 2, none⟩ (.int .i64 nd)) ⟨gm, 3, none⟩ (.int .i64 pk)) ⟨gm, 4, none⟩ (.int .i64 ps)) ⟨gm, 5, none⟩ (.int .i64 pd)) = W5 at *
    clear hW5 BV1 BV2 BVM HB4
    generalize nk = wk at *
  rotate_left
  all_goals
    clear m0 mf0 m1 mf1 m2 mf2 m3 mf3 m4 mf4 m5 mf5
    obtain ⟨m0, m1, m2, m3, m4, m5⟩ := BUM.out.six
    cases hcb : constI wk
    rotate_left
    · have HR := Lib.hid (show res = Fm.c wk by rw [HV.out]; unfold turnC sel; simp [hcb])
      have HC := Lib.hid (fun w' => const_any wk w')
      rw [hcb] at HC
      clear hcb
      have tk := BU2.out.nine; have yr0 := tk.c0; have yr1 := tk.c1; have yr2 := tk.c2; have yr3 := tk.c3; have yr4 := tk.c4; have yr5 := tk.c5; have yr6 := tk.c6; have yr7 := tk.c7; have yr8 := tk.c8; clear tk
      have tk := BU2.out.free9; have yf0 := tk.c0; have yf1 := tk.c1; have yf2 := tk.c2; have yf3 := tk.c3; have yf4 := tk.c4; have yf5 := tk.c5; have yf6 := tk.c6; have yf7 := tk.c7; have yf8 := tk.c8; clear tk
      have hB := HB5.out
      go_wp2_with fail
      refine (HC.out _).mono ?_
      rintro e w6 ⟨rfl, rfl⟩
      go_wp2_with fail
      refine bodyPost_ret (v := .agg #[.int .i64 wk, .string ⟨#[]⟩, .int .i64 0, .string ⟨#[]⟩, .slice none 0 0, .int .i64 0, .string ⟨#[]⟩, .slice none 0 0, .slice none 0 0]) ?_ rfl ⟨?_, bel9 hB (Nat.le_succ _) _ _ _ _ _ _ _ _ _⟩
      · simp [results, Tryz.results19, go_sem, yr0, yr1, yr2, yr3, yr4, yr5, yr6, yr7, yr8]
      · rw [HR.out]; exact FRes.const _ _ _
    have HC := Lib.hid (fun w' => const_any wk w')
    rw [hcb] at HC
    have HCB := Lib.hid hcb
    clear hcb
    have z0 := BU1.out.nine.c0
    go_wp2_with fail
    refine (HC.out _).mono ?_
    rintro e w6 ⟨rfl, rfl⟩
  rotate_left
  case' _ =>
    go_wp2_with fail
    refine (dual_any k _).mono ?_
    rintro e w6 ⟨rfl, rfl⟩
  rotate_left
  all_goals
    go_upto_region 10 with (fail)
    clear m0 m1 m2 m3 m4 m5 BUM
  all_goals
    exact absurd HCB.out (by first | (rw [HZ.out]; simp; done) | (rw [HZ.out.1]; simp; done) | (rw [HZ.out.2]; simp; done))
set_option maxRecDepth 100000 in
set_option maxHeartbeats 25600000 in
theorem turn2a (N : Nat) (ih : TurnAt 19 N) (k : Int) (n : ByteArray) (vl : Int) (fl : ByteArray) (al : List Tm) (vr : Int) (fr : ByteArray) (ar : List Tm) (ts : List Fm) (Al : Option Addr) (cl : Nat) (Ar : Option Addr) (cr : Nat) (A : Option Addr) (c : Nat) (a1 : Fm) (a2 : Fm) (S : Nat → Prop) (w : World) (neg : Bool) (h : k = 3 ∨ k = 4 ∨ k = 5) (hts : ts = [a1, a2]) (hN : (Fm.mk k n (.mk vl fl al) (.mk vr fr ar) ts).wt ≤ N + 1) (hNN : N ≤ 1125899906842623) (hsh : (Fm.mk k n (.mk vl fl al) (.mk vr fr ar) ts).shape = true) (hsh1 : a1.shape = true) (hsh2 : a2.shape = true) (hl : ST S w Al al.length cl al) (hr : ST S w Ar ar.length cr ar) (hs : SF S w A ts.length c ts) : Calls Tryz.prog 19 #[.agg #[.int .i64 k, .string n, .int .i64 vl, .string fl, .slice Al al.length cl, .int .i64 vr, .string fr, .slice Ar ar.length cr, .slice A ts.length c], .bool neg] w fun e w' => FRes (Up S w) w' (sel neg (Fm.turn (Fm.mk k n (.mk vl fl al) (.mk vr fr ar) ts))) e ∧ Below w.heap.size w w' := by
  have HK := Lib.hid h
  clear h
  have hN' : (Fm.mk k n (.mk vl fl al) (.mk vr fr ar) ts).wt ≤ 1125899906842624 := by omega
  have HME := Lib.hid (fun w' (hb : Below w.heap.size w w') => measured0 1125899906842624 k n vl fl al vr fr ar ts Al cl Ar cr A c S w' hN' (Nat.le_refl _) hsh (hl.stay (Stay.below hb)) (hr.stay (Stay.below hb)) (hs.stay (Stay.below hb)))
  have HV := Lib.hid (turn_sel neg k n (.mk vl fl al) (.mk vr fr ar) ts)
  generalize sel neg (Fm.turn (Fm.mk k n (.mk vl fl al) (.mk vr fr ar) ts)) = res at *
  generalize hmm : Fm.meas (Fm.mk k n (.mk vl fl al) (.mk vr fr ar) ts) = m at *
  clear hmm
  obtain ⟨⟨pk, ps, pd⟩, ⟨nk, ns, nd⟩⟩ := m
  simp only at HME
  clear hN' hsh
  subst hts
  have hs := hs.stay Stay.low'
  obtain ⟨b, o, hA1, k1, n1, vl1, fl1, al1, vr1, fr1, ar1, ts1, Al1, cl1, Ar1, cr1, A1, c1, hm1, hl1, hr1, hs1, p0, p1, p2, p3, p4, p5, p6, p7, p8⟩ := hs.at 0 (by simp)
  change a1 = _ at hm1
  subst hm1
  subst hA1
  simp only [Nat.zero_mul, Nat.one_mul, Nat.add_zero] at p0 p1 p2 p3 p4 p5 p6 p7 p8
  obtain ⟨b', o', hA2, k2, n2, vl2, fl2, al2, vr2, fr2, ar2, ts2, Al2, cl2, Ar2, cr2, A2, c2, hm2, hl2, hr2, hs2, q0, q1, q2, q3, q4, q5, q6, q7, q8⟩ := hs.at 1 (by simp)
  change a2 = _ at hm2
  subst hm2
  injection hA2 with hA2
  injection hA2 with hb2 ho2
  subst hb2 ho2
  simp only [Nat.zero_mul, Nat.one_mul, Nat.add_zero] at q0 q1 q2 q3 q4 q5 q6 q7 q8
  have hw : (Fm.mk k1 n1 (.mk vl1 fl1 al1) (.mk vr1 fr1 ar1) ts1).wt + (Fm.mk k2 n2 (.mk vl2 fl2 al2) (.mk vr2 fr2 ar2) ts2).wt + 3 ≤ N + 1 := by have hh := hN; rw [Fm.wt, Fm.wts, Fm.wts, Fm.wts] at hh; have := (Tm.mk vl fl al).wt_pos; have := (Tm.mk vr fr ar).wt_pos; omega
  have HI1 := Lib.hid (fun w' (hb : Below w.heap.size w w') neg => (show Calls Tryz.prog 19 #[.agg #[.int .i64 k1, .string n1, .int .i64 vl1, .string fl1, .slice Al1 al1.length cl1, .int .i64 vr1, .string fr1, .slice Ar1 ar1.length cr1, .slice A1 ts1.length c1], .bool neg] w' fun e w2 => FRes (Lo S w w') w2 (sel neg (Fm.turn (Fm.mk k1 n1 (.mk vl1 fl1 al1) (.mk vr1 fr1 ar1) ts1))) e ∧ Below w'.heap.size w' w2 from ih k1 n1 vl1 fl1 al1 vr1 fr1 ar1 ts1 Al1 cl1 Ar1 cr1 A1 c1 _ w' neg (by omega) (by omega) hsh1 (hl1.stay (Stay.below hb)) (hr1.stay (Stay.below hb)) (hs1.stay (Stay.below hb))))
  have HI2 := Lib.hid (fun w' (hb : Below w.heap.size w w') neg => (show Calls Tryz.prog 19 #[.agg #[.int .i64 k2, .string n2, .int .i64 vl2, .string fl2, .slice Al2 al2.length cl2, .int .i64 vr2, .string fr2, .slice Ar2 ar2.length cr2, .slice A2 ts2.length c2], .bool neg] w' fun e w2 => FRes (Lo S w w') w2 (sel neg (Fm.turn (Fm.mk k2 n2 (.mk vl2 fl2 al2) (.mk vr2 fr2 ar2) ts2))) e ∧ Below w'.heap.size w' w2 from ih k2 n2 vl2 fl2 al2 vr2 fr2 ar2 ts2 Al2 cl2 Ar2 cr2 A2 c2 _ w' neg (by omega) (by omega) hsh2 (hl2.stay (Stay.below hb)) (hr2.stay (Stay.below hb)) (hs2.stay (Stay.below hb))))
  rw [Fm.turnL, Fm.turnL, Fm.turnL] at HV
  generalize Fm.turn (Fm.mk k1 n1 (.mk vl1 fl1 al1) (.mk vr1 fr1 ar1) ts1) = t1 at *
  generalize Fm.turn (Fm.mk k2 n2 (.mk vl2 fl2 al2) (.mk vr2 fr2 ar2) ts2) = t2 at *
  have hbw := World.block_lt_of_cell? w _ p0
  have HP := Lib.hid (show C9 w b o (.int .i64 k1) (.string n1) (.int .i64 vl1) (.string fl1) (.slice Al1 al1.length cl1) (.int .i64 vr1) (.string fr1) (.slice Ar1 ar1.length cr1) (.slice A1 ts1.length c1) from ⟨p0, p1, p2, p3, p4, p5, p6, p7, p8⟩)
  have HQ := Lib.hid (show C9 w b (o + 9) (.int .i64 k2) (.string n2) (.int .i64 vl2) (.string fl2) (.slice Al2 al2.length cl2) (.int .i64 vr2) (.string fr2) (.slice Ar2 ar2.length cr2) (.slice A2 ts2.length c2) from ⟨q0, q1, q2, q3, q4, q5, q6, q7, q8⟩)
  clear p0 q0 p1 q1 p2 q2 p3 q3 p4 q4 p5 q5 p6 q6 p7 q7 p8 q8
  have hbw : b < w.heap.size := hbw
  clear ih hN hNN hw hsh1 hl1 hr1 hs1 hsh2 hl2 hr2 hs2 hl hr hs
  have HB0 := Lib.hid (show Below w.heap.size w ((w.alloc (.cells #[.int .i64 k, .string n, .int .i64 vl, .string fl, .slice Al al.length cl, .int .i64 vr, .string fr, .slice Ar ar.length cr, .slice (some ⟨b, o, none⟩) 2 c] 27)).alloc (.cells #[.int .i64 0, .string ⟨#[]⟩, .int .i64 0, .string ⟨#[]⟩, .slice none 0 0, .int .i64 0, .string ⟨#[]⟩, .slice none 0 0, .slice none 0 0] 27)) from bel_two)
  have BK1 := Lib.hid ((Blk.new w 27 [.int .i64 k, .string n, .int .i64 vl, .string fl, .slice Al al.length cl, .int .i64 vr, .string fr, .slice Ar ar.length cr, .slice (some ⟨b, o, none⟩) 2 c]).alloc (.cells #[.int .i64 0, .string ⟨#[]⟩, .int .i64 0, .string ⟨#[]⟩, .slice none 0 0, .int .i64 0, .string ⟨#[]⟩, .slice none 0 0, .slice none 0 0] 27))
  have BK2 := Lib.hid (Blk.new' (w.alloc (.cells #[.int .i64 k, .string n, .int .i64 vl, .string fl, .slice Al al.length cl, .int .i64 vr, .string fr, .slice Ar ar.length cr, .slice (some ⟨b, o, none⟩) 2 c] 27)) (w.heap.size + 1) 27 [.int .i64 0, .string ⟨#[]⟩, .int .i64 0, .string ⟨#[]⟩, .slice none 0 0, .int .i64 0, .string ⟨#[]⟩, .slice none 0 0, .slice none 0 0] (by simp))
  simp only [List.toArray] at BK1 BK2
  cases neg
  all_goals
    go_enter Tryz.func19, Tryz.ntmps19
    go_upto_region 1 with (fail)
    generalize hW : (w.alloc (.cells #[.int .i64 k, .string n, .int .i64 vl, .string fl, .slice Al al.length cl, .int .i64 vr, .string fr, .slice Ar ar.length cr, .slice (some ⟨b, o, none⟩) 2 c] 27)).alloc (.cells #[.int .i64 0, .string ⟨#[]⟩, .int .i64 0, .string ⟨#[]⟩, .slice none 0 0, .int .i64 0, .string ⟨#[]⟩, .slice none 0 0, .slice none 0 0] 27) = W at *
    clear hW
    have tk := BK1.out.nine; have z0 := tk.c0; have z1 := tk.c1; have z2 := tk.c2; have z3 := tk.c3; have z4 := tk.c4; have z5 := tk.c5; have z6 := tk.c6; have z7 := tk.c7; have z8 := tk.c8; clear tk
    go_wp2_with fail
    refine (HME.out _ HB0.out).mono ?_
    rintro e w2 ⟨rfl, hb2⟩
    have HB2 := Lib.hid (bel_go HB0.out hb2)
    have BQ1 := Lib.hid (Blk.go BK1.out hb2)
    have BQ2 := Lib.hid (Blk.go BK2.out hb2)
    clear z0 z1 z2 z3 z4 z5 z6 z7 z8 hb2 BK1 BK2
    go_upto_region 2 with (fail)
    have BM := Lib.hid (Blk.new w2 47 [.int .i64 pk, .int .i64 ps, .int .i64 pd, .int .i64 nk, .int .i64 ns, .int .i64 nd])
    have BS1 := Lib.hid (BQ1.out.alloc (.cells #[.int .i64 pk, .int .i64 ps, .int .i64 pd, .int .i64 nk, .int .i64 ns, .int .i64 nd] 47))
    have BS2 := Lib.hid (BQ2.out.alloc (.cells #[.int .i64 pk, .int .i64 ps, .int .i64 pd, .int .i64 nk, .int .i64 ns, .int .i64 nd] 47))
    have HB3 := Lib.hid (Below.alloc HB2.out HB2.out.size (.cells #[.int .i64 pk, .int .i64 ps, .int .i64 pd, .int .i64 nk, .int .i64 ns, .int .i64 nd] 47))
    have hl1 := BQ1.out.lt
    have hl2 := BQ2.out.lt
    simp only [List.toArray] at BM
    generalize hgm : w2.heap.size = gm at *
    generalize hW3 : w2.alloc (.cells #[.int .i64 pk, .int .i64 ps, .int .i64 pd, .int .i64 nk, .int .i64 ns, .int .i64 nd] 47) = W3 at *
    clear hW3
    have hne1 : w.heap.size + 1 ≠ gm := by omega
    have hne2 : gm ≠ w.heap.size + 1 := by omega
    have hne0 : gm ≠ w.heap.size := by omega
    have hgw : w.heap.size ≤ gm := by omega
    clear hl1 hl2 hgm BQ1 BQ2
    obtain ⟨m0, m1, m2, m3, m4, m5⟩ := BM.out.six
    obtain ⟨mf0, mf1, mf2, mf3, mf4, mf5⟩ := (⟨BM.out.free 0, BM.out.free 1, BM.out.free 2, BM.out.free 3, BM.out.free 4, BM.out.free 5⟩ : _ ∧ _ ∧ _ ∧ _ ∧ _ ∧ _)
  case' _ =>
    go_upto_region 4 with (fail)
    have BU1 := BS1
    have BU2 := BS2
    have BUM := BM
    have HB5 := HB3
    clear BS1 BS2 BM HB3
    generalize W3 = W5 at *
    generalize pk = wk at *
  rotate_left
  case' _ =>
    go_wp2_with fail
    refine (other_any pk ps pd nk ns nd _).mono ?_
    rintro e w4 ⟨rfl, hb4⟩
    have HB4 := Lib.hid (bel_go HB3.out hb4)
    have BV1 := Lib.hid (Blk.go BS1.out hb4)
    have BV2 := Lib.hid (Blk.go BS2.out hb4)
    have BVM := Lib.hid (Blk.go BM.out hb4)
    clear hb4 BS1 BS2 BM HB3
    clear m0 mf0 m1 mf1 m2 mf2 m3 mf3 m4 mf4 m5 mf5
    obtain ⟨m0, m1, m2, m3, m4, m5⟩ := BVM.out.six
    obtain ⟨mf0, mf1, mf2, mf3, mf4, mf5⟩ := (⟨BVM.out.free 0, BVM.out.free 1, BVM.out.free 2, BVM.out.free 3, BVM.out.free 4, BVM.out.free 5⟩ : _ ∧ _ ∧ _ ∧ _ ∧ _ ∧ _)
    go_upto_region 4 with (fail)
    have BU1 := Lib.hid (blk6o BV1.out hne0 (.int .i64 nk) (.int .i64 ns) (.int .i64 nd) (.int .i64 pk) (.int .i64 ps) (.int .i64 pd))
    have BU2 := Lib.hid (blk6o BV2.out hne2 (.int .i64 nk) (.int .i64 ns) (.int .i64 nd) (.int .i64 pk) (.int .i64 ps) (.int .i64 pd))
    have BUM := Lib.hid (blk6 BVM.out (.int .i64 nk) (.int .i64 ns) (.int .i64 nd) (.int .i64 pk) (.int .i64 ps) (.int .i64 pd))
    have HB5 := Lib.hid ((((((HB4.out.setCell (p := ⟨gm, 0, none⟩) hgw (.int .i64 nk)).setCell (p := ⟨gm, 1, none⟩) hgw (.int .i64 ns)).setCell (p := ⟨gm, 2, none⟩) hgw (.int .i64 nd)).setCell (p := ⟨gm, 3, none⟩) hgw (.int .i64 pk)).setCell (p := ⟨gm, 4, none⟩) hgw (.int .i64 ps)).setCell (p := ⟨gm, 5, none⟩) hgw (.int .i64 pd))
    generalize hW5 : (World.setCell (World.setCell (World.setCell (World.setCell (World.setCell (World.setCell w4 ⟨gm, 0, none⟩ (.int .i64 nk)) ⟨gm, 1, none⟩ (.int .i64 ns)) ⟨gm, 2, none⟩ (.int .i64 nd)) ⟨gm, 3, none⟩ (.int .i64 pk)) ⟨gm, 4, none⟩ (.int .i64 ps)) ⟨gm, 5, none⟩ (.int .i64 pd)) = W5 at *
    clear hW5 BV1 BV2 BVM HB4
    generalize nk = wk at *
  rotate_left
  all_goals
    clear m0 mf0 m1 mf1 m2 mf2 m3 mf3 m4 mf4 m5 mf5
    obtain ⟨m0, m1, m2, m3, m4, m5⟩ := BUM.out.six
    cases hcb : constI wk
    rotate_left
    · have HR := Lib.hid (show res = Fm.c wk by rw [HV.out]; unfold turnC sel; simp [hcb])
      have HC := Lib.hid (fun w' => const_any wk w')
      rw [hcb] at HC
      clear hcb
      have tk := BU2.out.nine; have yr0 := tk.c0; have yr1 := tk.c1; have yr2 := tk.c2; have yr3 := tk.c3; have yr4 := tk.c4; have yr5 := tk.c5; have yr6 := tk.c6; have yr7 := tk.c7; have yr8 := tk.c8; clear tk
      have tk := BU2.out.free9; have yf0 := tk.c0; have yf1 := tk.c1; have yf2 := tk.c2; have yf3 := tk.c3; have yf4 := tk.c4; have yf5 := tk.c5; have yf6 := tk.c6; have yf7 := tk.c7; have yf8 := tk.c8; clear tk
      have hB := HB5.out
      go_wp2_with fail
      refine (HC.out _).mono ?_
      rintro e w6 ⟨rfl, rfl⟩
      go_wp2_with fail
      refine bodyPost_ret (v := .agg #[.int .i64 wk, .string ⟨#[]⟩, .int .i64 0, .string ⟨#[]⟩, .slice none 0 0, .int .i64 0, .string ⟨#[]⟩, .slice none 0 0, .slice none 0 0]) ?_ rfl ⟨?_, bel9 hB (Nat.le_succ _) _ _ _ _ _ _ _ _ _⟩
      · simp [results, Tryz.results19, go_sem, yr0, yr1, yr2, yr3, yr4, yr5, yr6, yr7, yr8]
      · rw [HR.out]; exact FRes.const _ _ _
    have HC := Lib.hid (fun w' => const_any wk w')
    rw [hcb] at HC
    have HCB := Lib.hid hcb
    clear hcb
    have z0 := BU1.out.nine.c0
    go_wp2_with fail
    refine (HC.out _).mono ?_
    rintro e w6 ⟨rfl, rfl⟩
  rotate_left
  case' _ =>
    go_wp2_with fail
    refine (dual_any k _).mono ?_
    rintro e w6 ⟨rfl, rfl⟩
  rotate_left
  all_goals
    go_upto_region 10 with (fail)
    clear m0 m1 m2 m3 m4 m5 BUM
  all_goals
    have Z8 := Lib.hid BU1.out.nine.c8
    have z8 := Z8.out
    have HE := Lib.hid (HP.out.keep HB5.out)
    have HD := Lib.hid (HQ.out.keep HB5.out)
    have tk := HE.out; have e0 := tk.c0; have e1 := tk.c1; have e2 := tk.c2; have e3 := tk.c3; have e4 := tk.c4; have e5 := tk.c5; have e6 := tk.c6; have e7 := tk.c7; have e8 := tk.c8; clear tk
    have tk := HD.out; have d0 := tk.c0; have d1 := tk.c1; have d2 := tk.c2; have d3 := tk.c3; have d4 := tk.c4; have d5 := tk.c5; have d6 := tk.c6; have d7 := tk.c7; have d8 := tk.c8; clear tk
    have hno : ¬ Lo S w W5 (w.heap.size + 1) := lo_not (by omega) BU2.out.lt
    have hsz := HB5.out.size
    have hbn1 : w.heap.size + 1 ≠ b := by omega
    have hbn2 : b ≠ w.heap.size + 1 := by omega
    have hbn3 : w.heap.size + 1 ≠ w.heap.size := by omega
    have hlw : w.heap.size < W5.heap.size := by have := BU2.out.lt; omega
    have hlb : b < W5.heap.size := by omega
    have HQ0 := Lib.hid (bel_drew1 W5)
    rcases HK.out with rfl | rfl | rfl
    all_goals
      first | go_upto_region 27 with (fail) | go_upto_region 28 with (fail) | go_upto_region 33 with (fail)
      (first | (go_region_held3 (fun w' => w'.cell? ⟨w.heap.size, 8, none⟩ = some (.slice (some ⟨b, o, none⟩) 2 c) ∧ w'.cell? ⟨b, o, none⟩ = some (.int .i64 k1) ∧ w'.cell? ⟨b, o + 1, none⟩ = some (.string n1) ∧ w'.cell? ⟨b, o + 2, none⟩ = some (.int .i64 vl1) ∧ w'.cell? ⟨b, o + 3, none⟩ = some (.string fl1) ∧ w'.cell? ⟨b, o + 4, none⟩ = some (.slice Al1 al1.length cl1) ∧ w'.cell? ⟨b, o + 5, none⟩ = some (.int .i64 vr1) ∧ w'.cell? ⟨b, o + 6, none⟩ = some (.string fr1) ∧ w'.cell? ⟨b, o + 7, none⟩ = some (.slice Ar1 ar1.length cr1) ∧ w'.cell? ⟨b, o + 8, none⟩ = some (.slice A1 ts1.length c1) ∧ w'.cell? ⟨b, o + 9, none⟩ = some (.int .i64 k2) ∧ w'.cell? ⟨b, o + 10, none⟩ = some (.string n2) ∧ w'.cell? ⟨b, o + 11, none⟩ = some (.int .i64 vl2) ∧ w'.cell? ⟨b, o + 12, none⟩ = some (.string fl2) ∧ w'.cell? ⟨b, o + 13, none⟩ = some (.slice Al2 al2.length cl2) ∧ w'.cell? ⟨b, o + 14, none⟩ = some (.int .i64 vr2) ∧ w'.cell? ⟨b, o + 15, none⟩ = some (.string fr2) ∧ w'.cell? ⟨b, o + 16, none⟩ = some (.slice Ar2 ar2.length cr2) ∧ w'.cell? ⟨b, o + 17, none⟩ = some (.slice A2 ts2.length c2)) (go_keep) (first | (go_at_call_of 19 (Value.agg #[.int .i64 k2, .string n2, .int .i64 vl2, .string fl2, .slice Al2 al2.length cl2, .int .i64 vr2, .string fr2, .slice Ar2 ar2.length cr2, .slice A2 ts2.length c2]); refine (HI2.out _ (bel_go HB5.out (by first | exact HQ1.out | exact HQ0.out)) _).mono ?_; rintro e w9 ⟨⟨gk8, gn8, gvl8, gfl8, gal8, gvr8, gfr8, gar8, gts8, gAl8, gcl8, gAr8, gcr8, gA8, gc8, hg8, rfl, gr8⟩, hb9⟩; have G8 := Lib.hid (r3 gr8 (Stay.lo_lo ((by first | exact HQ1.out | exact HQ0.out) : Below W5.heap.size W5 _).size)); have GG8 := Lib.hid hg8; clear gr8 hg8; have G7 := Lib.hid (r3 G7.out (Stay.below hb9)); have HQ1 := Lib.hid (bel_go (by first | exact HQ1.out | exact HQ0.out) hb9); clear hb9; have z8 := keepc HQ1.out Z8.out; have tk := HE.out.keep HQ1.out; have e0 := tk.c0; have e1 := tk.c1; have e2 := tk.c2; have e3 := tk.c3; have e4 := tk.c4; have e5 := tk.c5; have e6 := tk.c6; have e7 := tk.c7; have e8 := tk.c8; clear tk; have tk := HD.out.keep HQ1.out; have d0 := tk.c0; have d1 := tk.c1; have d2 := tk.c2; have d3 := tk.c3; have d4 := tk.c4; have d5 := tk.c5; have d6 := tk.c6; have d7 := tk.c7; have d8 := tk.c8; clear tk; have BR := Lib.hid (BU2.out.below HQ1.out BU2.out.lt); have tk := BR.out.nine; have yr0 := tk.c0; have yr1 := tk.c1; have yr2 := tk.c2; have yr3 := tk.c3; have yr4 := tk.c4; have yr5 := tk.c5; have yr6 := tk.c6; have yr7 := tk.c7; have yr8 := tk.c8; clear tk; have tk := BR.out.free9; have yf0 := tk.c0; have yf1 := tk.c1; have yf2 := tk.c2; have yf3 := tk.c3; have yf4 := tk.c4; have yf5 := tk.c5; have yf6 := tk.c6; have yf7 := tk.c7; have yf8 := tk.c8; clear tk; have hB := bel_go HB5.out HQ1.out) | (go_at_call_of 42 (Value.agg #[.int .i64 gk7, .string gn7, .int .i64 gvl7, .string gfl7, .slice gAl7 gal7.length gcl7, .int .i64 gvr7, .string gfr7, .slice gAr7 gar7.length gcr7, .slice gA7 gts7.length gc7]); refine (joinR _ (Lo S w W5) _ G7.out G8.out).mono ?_; rintro e w9 ⟨⟨gk9, gn9, gvl9, gfl9, gal9, gvr9, gfr9, gar9, gts9, gAl9, gcl9, gAr9, gcr9, gA9, gc9, hg9, rfl, gr9⟩, hb9⟩; have G9 := Lib.hid (r3 gr9 (Stay.up_lo ((by first | exact HQ1.out | exact HQ0.out) : Below W5.heap.size W5 _).size)); have GG9 := Lib.hid hg9; clear gr9 hg9; have HQ1 := Lib.hid (bel_go (by first | exact HQ1.out | exact HQ0.out) hb9); clear hb9; have z8 := keepc HQ1.out Z8.out; have tk := HE.out.keep HQ1.out; have e0 := tk.c0; have e1 := tk.c1; have e2 := tk.c2; have e3 := tk.c3; have e4 := tk.c4; have e5 := tk.c5; have e6 := tk.c6; have e7 := tk.c7; have e8 := tk.c8; clear tk; have tk := HD.out.keep HQ1.out; have d0 := tk.c0; have d1 := tk.c1; have d2 := tk.c2; have d3 := tk.c3; have d4 := tk.c4; have d5 := tk.c5; have d6 := tk.c6; have d7 := tk.c7; have d8 := tk.c8; clear tk; have BR := Lib.hid (BU2.out.below HQ1.out BU2.out.lt); have tk := BR.out.nine; have yr0 := tk.c0; have yr1 := tk.c1; have yr2 := tk.c2; have yr3 := tk.c3; have yr4 := tk.c4; have yr5 := tk.c5; have yr6 := tk.c6; have yr7 := tk.c7; have yr8 := tk.c8; clear tk; have tk := BR.out.free9; have yf0 := tk.c0; have yf1 := tk.c1; have yf2 := tk.c2; have yf3 := tk.c3; have yf4 := tk.c4; have yf5 := tk.c5; have yf6 := tk.c6; have yf7 := tk.c7; have yf8 := tk.c8; clear tk; have hB := bel_go HB5.out HQ1.out) | (go_at_call_of 19 (Value.agg #[.int .i64 k1, .string n1, .int .i64 vl1, .string fl1, .slice Al1 al1.length cl1, .int .i64 vr1, .string fr1, .slice Ar1 ar1.length cr1, .slice A1 ts1.length c1]); refine (HI1.out _ (bel_go HB5.out (by first | exact HQ1.out | exact HQ0.out)) _).mono ?_; rintro e w9 ⟨⟨gk7, gn7, gvl7, gfl7, gal7, gvr7, gfr7, gar7, gts7, gAl7, gcl7, gAr7, gcr7, gA7, gc7, hg7, rfl, gr7⟩, hb9⟩; have G7 := Lib.hid (r3 gr7 (Stay.lo_lo ((by first | exact HQ1.out | exact HQ0.out) : Below W5.heap.size W5 _).size)); have GG7 := Lib.hid hg7; clear gr7 hg7; have HQ1 := Lib.hid (bel_go (by first | exact HQ1.out | exact HQ0.out) hb9); clear hb9; have z8 := keepc HQ1.out Z8.out; have tk := HE.out.keep HQ1.out; have e0 := tk.c0; have e1 := tk.c1; have e2 := tk.c2; have e3 := tk.c3; have e4 := tk.c4; have e5 := tk.c5; have e6 := tk.c6; have e7 := tk.c7; have e8 := tk.c8; clear tk; have tk := HD.out.keep HQ1.out; have d0 := tk.c0; have d1 := tk.c1; have d2 := tk.c2; have d3 := tk.c3; have d4 := tk.c4; have d5 := tk.c5; have d6 := tk.c6; have d7 := tk.c7; have d8 := tk.c8; clear tk; have BR := Lib.hid (BU2.out.below HQ1.out BU2.out.lt); have tk := BR.out.nine; have yr0 := tk.c0; have yr1 := tk.c1; have yr2 := tk.c2; have yr3 := tk.c3; have yr4 := tk.c4; have yr5 := tk.c5; have yr6 := tk.c6; have yr7 := tk.c7; have yr8 := tk.c8; clear tk; have tk := BR.out.free9; have yf0 := tk.c0; have yf1 := tk.c1; have yf2 := tk.c2; have yf3 := tk.c3; have yf4 := tk.c4; have yf5 := tk.c5; have yf6 := tk.c6; have yf7 := tk.c7; have yf8 := tk.c8; clear tk; have hB := bel_go HB5.out HQ1.out))) | fail "held")
      all_goals
        have HR := Lib.hid (show res = (Fm.mk gk9 gn9 (.mk gvl9 gfl9 gal9) (.mk gvr9 gfr9 gar9) gts9) by rw [HV.out, ← GG9.out, ← GG7.out, ← GG8.out]; unfold turnC; simp [HCB.out, sel_f, sel_t, kd1, kd2, dualI])
        go_wp2_with fail
        refine bodyPost_ret (v := .agg #[.int .i64 gk9, .string gn9, .int .i64 gvl9, .string gfl9, .slice gAl9 gal9.length gcl9, .int .i64 gvr9, .string gfr9, .slice gAr9 gar9.length gcr9, .slice gA9 gts9.length gc9]) ?_ rfl ⟨?_, bel9 hB (Nat.le_succ _) _ _ _ _ _ _ _ _ _⟩
        · simp [results, Tryz.results19, go_sem, yr0, yr1, yr2, yr3, yr4, yr5, yr6, yr7, yr8]
        · rw [HR.out]; exact FRes.of (r3 G9.out ((Stay.set9 hno _ _ _ _ _ _ _ _ _).trans (Stay.lo_up hsz)))
end Go.Proofs.YtndjjnnljihmnaaGreat
