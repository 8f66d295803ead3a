/- Terms and formulas as they lie in memory: their readings, and how these are kept. -/
import Derived.Test.YtndjjnnljihmnaaGreatMem
namespace Go.Proofs.YtndjjnnljihmnaaGreat
open Go.RowKit
set_option linter.unusedVariables false
set_option linter.unusedSimpArgs false

inductive Tm where
  | mk (v : Int) (f : ByteArray) (ts : List Tm)
inductive Fm where
  | mk (k : Int) (n : ByteArray) (l r : Tm) (ks : List Fm)

def At (w : World) (b o : Nat) (cs : List Value) : Prop := ∀ i u, cs[i]? = some u → w.cell? ⟨b, o + i, none⟩ = some u
mutual
/-- A term's cells. -/
def RT (S : Nat → Prop) (w : World) : Tm → List Value → Prop
  | .mk v f ts, cs => ∃ A n c, cs = [.int .i64 v, .string f, .slice A n c] ∧ n = ts.length ∧ n ≤ c ∧ n ≤ 9223372036854775807 ∧ (0 < n → ∃ b o, A = some ⟨b, o, none⟩ ∧ S b ∧ RTs S w b o ts)
/-- Terms that lie one behind the other. -/
def RTs (S : Nat → Prop) (w : World) : Nat → Nat → List Tm → Prop
  | _, _, [] => True
  | b, o, t :: r => (∃ cs, RT S w t cs ∧ At w b o cs) ∧ RTs S w b (o + 3) r
end
mutual
/-- A formula's cells. -/
def RF (S : Nat → Prop) (w : World) : Fm → List Value → Prop
  | .mk k n l r ks, cs => ∃ cl cr A m c, cs = [.int .i64 k, .string n] ++ cl ++ cr ++ [.slice A m c] ∧ RT S w l cl ∧ RT S w r cr ∧ m = ks.length ∧ m ≤ c ∧ m ≤ 9223372036854775807 ∧ (0 < m → ∃ b o, A = some ⟨b, o, none⟩ ∧ S b ∧ RFs S w b o ks)
def RFs (S : Nat → Prop) (w : World) : Nat → Nat → List Fm → Prop
  | _, _, [] => True
  | b, o, f :: r => (∃ cs, RF S w f cs ∧ At w b o cs) ∧ RFs S w b (o + 9) r
end
/-- What is read stays as it is. -/
def Stay (S S' : Nat → Prop) (w w' : World) : Prop := ∀ b o u, S b → w.cell? ⟨b, o, none⟩ = some u → S' b ∧ w'.cell? ⟨b, o, none⟩ = some u
theorem At.stay {w w' : World} {b o : Nat} {cs : List Value} {S S' : Nat → Prop} (h : At w b o cs) (hS : S b) (hs : Stay S S' w w') : At w' b o cs := fun i u hu => (hs _ _ _ hS (h i u hu)).2
theorem RT_len {S : Nat → Prop} {w : World} : ∀ {t : Tm} {cs : List Value}, RT S w t cs → cs.length = 3
  | .mk v f ts, cs, h => by
    obtain ⟨A, n, c, rfl, _⟩ := h
    rfl
theorem RF_len {S : Nat → Prop} {w : World} : ∀ {f : Fm} {cs : List Value}, RF S w f cs → cs.length = 9
  | .mk k n l r ks, cs, h => by
    obtain ⟨cl, cr, A, m, c, rfl, hl, hr, _⟩ := h
    simp [RT_len hl, RT_len hr]
mutual
theorem RT.stay {S S' : Nat → Prop} {w w' : World} (hs : Stay S S' w w') : ∀ {t : Tm} {cs : List Value}, RT S w t cs → RT S' w' t cs
  | .mk v f ts, cs, h => by
    obtain ⟨A, n, c, e, h1, h2, h3, h4⟩ := h
    refine ⟨A, n, c, e, h1, h2, h3, fun hn => ?_⟩
    obtain ⟨b, o, hA, hS, hr⟩ := h4 hn
    have hne : ts ≠ [] := fun e => by subst e; simp at h1; omega
    obtain ⟨hS', hr'⟩ := RTs.stay hs hS hr
    exact ⟨b, o, hA, hS' hne, hr'⟩
theorem RTs.stay {S S' : Nat → Prop} {w w' : World} (hs : Stay S S' w w') : ∀ {ts : List Tm} {b o : Nat}, S b → RTs S w b o ts → (ts ≠ [] → S' b) ∧ RTs S' w' b o ts
  | [], b, o, _, _ => ⟨fun h => absurd rfl h, trivial⟩
  | t :: r, b, o, hS, h => by
    obtain ⟨⟨cs, h1, h2⟩, h3⟩ := h
    have hl := RT_len h1
    obtain ⟨u, hu⟩ : ∃ u, cs[0]? = some u := ⟨cs[0]'(by omega), List.getElem?_eq_getElem (by omega)⟩
    exact ⟨fun _ => (hs _ _ _ hS (h2 0 u hu)).1, ⟨cs, RT.stay hs h1, h2.stay hS hs⟩, (RTs.stay hs hS h3).2⟩
end
mutual
theorem RF.stay {S S' : Nat → Prop} {w w' : World} (hs : Stay S S' w w') : ∀ {f : Fm} {cs : List Value}, RF S w f cs → RF S' w' f cs
  | .mk k n l r ks, cs, h => by
    obtain ⟨cl, cr, A, m, c, e, hl, hr, h1, h2, h3, h4⟩ := h
    refine ⟨cl, cr, A, m, c, e, hl.stay hs, hr.stay hs, h1, h2, h3, fun hn => ?_⟩
    obtain ⟨b, o, hA, hS, hr⟩ := h4 hn
    have hne : ks ≠ [] := fun e => by subst e; simp at h1; omega
    obtain ⟨hS', hr'⟩ := RFs.stay hs hS hr
    exact ⟨b, o, hA, hS' hne, hr'⟩
theorem RFs.stay {S S' : Nat → Prop} {w w' : World} (hs : Stay S S' w w') : ∀ {ks : List Fm} {b o : Nat}, S b → RFs S w b o ks → (ks ≠ [] → S' b) ∧ RFs S' w' b o ks
  | [], b, o, _, _ => ⟨fun h => absurd rfl h, trivial⟩
  | f :: r, b, o, hS, h => by
    obtain ⟨⟨cs, h1, h2⟩, h3⟩ := h
    have hl := RF_len h1
    obtain ⟨u, hu⟩ : ∃ u, cs[0]? = some u := ⟨cs[0]'(by omega), List.getElem?_eq_getElem (by omega)⟩
    exact ⟨fun _ => (hs _ _ _ hS (h2 0 u hu)).1, ⟨cs, RF.stay hs h1, h2.stay hS hs⟩, (RFs.stay hs hS h3).2⟩
end
theorem Stay.below {S : Nat → Prop} {w w' : World} (hb : Below w.heap.size w w') : Stay S S w w' := fun b o u hS h => ⟨hS, (hb.cell (p := ⟨b, o, none⟩) (World.block_lt_of_cell? w _ h)).trans h⟩
theorem Stay.mono {S S' : Nat → Prop} {w : World} (h : ∀ b, S b → S' b) : Stay S S' w w := fun b o u hS hc => ⟨h b hS, hc⟩
theorem Stay.low {S : Nat → Prop} {w : World} : Stay S (fun b => S b ∧ b < w.heap.size) w w := fun b o u hS hc => ⟨⟨hS, World.block_lt_of_cell? w _ hc⟩, hc⟩
theorem Stay.trans {S S' S'' : Nat → Prop} {w w' w'' : World} (h : Stay S S' w w') (h' : Stay S' S'' w' w'') : Stay S S'' w w'' := fun b o u hS hc => by
  obtain ⟨h1, h2⟩ := h b o u hS hc
  exact h' b o u h1 h2
theorem RT.below {S : Nat → Prop} {w w' : World} {t : Tm} {cs : List Value} (h : RT S w t cs) (hb : Below w.heap.size w w') : RT S w' t cs := h.stay (.below hb)
theorem RF.below {S : Nat → Prop} {w w' : World} {f : Fm} {cs : List Value} (h : RF S w f cs) (hb : Below w.heap.size w w') : RF S w' f cs := h.stay (.below hb)
theorem RTs_get {S : Nat → Prop} {w : World} : ∀ {ts : List Tm} {b o : Nat} (i : Nat) (h : i < ts.length), RTs S w b o ts → ∃ cs, RT S w ts[i] cs ∧ At w b (o + i * 3) cs
  | t :: r, b, o, 0, _, hr => by
    obtain ⟨cs, h1, h2⟩ := hr.1
    exact ⟨cs, h1, by simpa using h2⟩
  | t :: r, b, o, i + 1, h, hr => by
    have := RTs_get (o := o + 3) i (by simpa using h) hr.2
    rw [show o + (i + 1) * 3 = o + 3 + i * 3 by omega]
    exact this
theorem RFs_get {S : Nat → Prop} {w : World} : ∀ {ks : List Fm} {b o : Nat} (i : Nat) (h : i < ks.length), RFs S w b o ks → ∃ cs, RF S w ks[i] cs ∧ At w b (o + i * 9) cs
  | f :: r, b, o, 0, _, hr => by
    obtain ⟨cs, h1, h2⟩ := hr.1
    exact ⟨cs, h1, by simpa using h2⟩
  | f :: r, b, o, i + 1, h, hr => by
    have := RFs_get (o := o + 9) i (by simpa using h) hr.2
    rw [show o + (i + 1) * 9 = o + 9 + i * 9 by omega]
    exact this
/-! ### slices of terms, of formulas -/
def ST (S : Nat → Prop) (w : World) (A : Option Addr) (n c : Nat) (ts : List Tm) : Prop := n = ts.length ∧ n ≤ c ∧ n ≤ 9223372036854775807 ∧ (0 < n → ∃ b o, A = some ⟨b, o, none⟩ ∧ S b ∧ RTs S w b o ts)
def SF (S : Nat → Prop) (w : World) (A : Option Addr) (n c : Nat) (ks : List Fm) : Prop := n = ks.length ∧ n ≤ c ∧ n ≤ 9223372036854775807 ∧ (0 < n → ∃ b o, A = some ⟨b, o, none⟩ ∧ S b ∧ RFs S w b o ks)
theorem ST.stay {S S' : Nat → Prop} {w w' : World} {A : Option Addr} {n c : Nat} {ts : List Tm} (h : ST S w A n c ts) (hs : Stay S S' w w') : ST S' w' A n c ts := by
  obtain ⟨h1, h2, h3, h4⟩ := h
  refine ⟨h1, h2, h3, fun hn => ?_⟩
  obtain ⟨b, o, hA, hS, hr⟩ := h4 hn
  have hne : ts ≠ [] := fun e => by subst e; simp at h1; omega
  obtain ⟨hS', hr'⟩ := RTs.stay hs hS hr
  exact ⟨b, o, hA, hS' hne, hr'⟩
theorem SF.stay {S S' : Nat → Prop} {w w' : World} {A : Option Addr} {n c : Nat} {ks : List Fm} (h : SF S w A n c ks) (hs : Stay S S' w w') : SF S' w' A n c ks := by
  obtain ⟨h1, h2, h3, h4⟩ := h
  refine ⟨h1, h2, h3, fun hn => ?_⟩
  obtain ⟨b, o, hA, hS, hr⟩ := h4 hn
  have hne : ks ≠ [] := fun e => by subst e; simp at h1; omega
  obtain ⟨hS', hr'⟩ := RFs.stay hs hS hr
  exact ⟨b, o, hA, hS' hne, hr'⟩
/-- A term's cells, written out. -/
theorem RT.open {S : Nat → Prop} {w : World} {v : Int} {f : ByteArray} {ts : List Tm} {cs : List Value} (h : RT S w (.mk v f ts) cs) : ∃ A c, cs = [.int .i64 v, .string f, .slice A ts.length c] ∧ ST S w A ts.length c ts := by
  obtain ⟨A, n, c, e, h1, h2⟩ := h
  subst h1
  exact ⟨A, c, e, rfl, h2⟩
theorem RT.shut {S : Nat → Prop} {w : World} {A : Option Addr} {n c : Nat} {ts : List Tm} (v : Int) (f : ByteArray) (h : ST S w A n c ts) : RT S w (.mk v f ts) [.int .i64 v, .string f, .slice A n c] := ⟨A, n, c, rfl, h⟩
theorem RF.open {S : Nat → Prop} {w : World} {k : Int} {n : ByteArray} {vl vr : Int} {fl fr : ByteArray} {al ar : List Tm} {ks : List Fm} {cs : List Value} (h : RF S w (.mk k n (.mk vl fl al) (.mk vr fr ar) ks) cs) :
    ∃ Al cl Ar cr A c, cs = [.int .i64 k, .string n, .int .i64 vl, .string fl, .slice Al al.length cl, .int .i64 vr, .string fr, .slice Ar ar.length cr, .slice A ks.length c] ∧ ST S w Al al.length cl al ∧ ST S w Ar ar.length cr ar ∧ SF S w A ks.length c ks := by
  obtain ⟨cl, cr, A, m, c, e, hl, hr, h1, h2⟩ := h
  obtain ⟨Al, cl', rfl, hl'⟩ := hl.open
  obtain ⟨Ar, cr', rfl, hr'⟩ := hr.open
  subst h1
  exact ⟨Al, cl', Ar, cr', A, c, e, hl', hr', rfl, h2⟩
theorem RF.shut {S : Nat → Prop} {w : World} {Al Ar A : Option Addr} {nl cl nr cr m c : Nat} {al ar : List Tm} {ks : List Fm} (k : Int) (n : ByteArray) (vl vr : Int) (fl fr : ByteArray) (hl : ST S w Al nl cl al) (hr : ST S w Ar nr cr ar) (h : SF S w A m c ks) :
    RF S w (.mk k n (.mk vl fl al) (.mk vr fr ar) ks) [.int .i64 k, .string n, .int .i64 vl, .string fl, .slice Al nl cl, .int .i64 vr, .string fr, .slice Ar nr cr, .slice A m c] :=
  ⟨_, _, A, m, c, rfl, RT.shut vl fl hl, RT.shut vr fr hr, h⟩
theorem ST.nil (S : Nat → Prop) (w : World) (c : Nat) : ST S w none 0 c [] := ⟨rfl, by omega, by omega, fun h => absurd h (by omega)⟩
theorem SF.nil (S : Nat → Prop) (w : World) (c : Nat) : SF S w none 0 c [] := ⟨rfl, by omega, by omega, fun h => absurd h (by omega)⟩
/-- An element: its cells, each told. -/
theorem ST.at {S : Nat → Prop} {w : World} {A : Option Addr} {n c : Nat} {ts : List Tm} (h : ST S w A n c ts) (i : Nat) (hi : i < ts.length) :
    ∃ b o, A = some ⟨b, o, none⟩ ∧ ∃ v f bs Ai ci, ts[i] = .mk v f bs ∧ ST S w Ai bs.length ci bs ∧ w.cell? ⟨b, o + i * 3, none⟩ = some (.int .i64 v) ∧ w.cell? ⟨b, o + i * 3 + 1, none⟩ = some (.string f) ∧ w.cell? ⟨b, o + i * 3 + 2, none⟩ = some (.slice Ai bs.length ci) := by
  obtain ⟨h1, h2, h3, h4⟩ := h
  obtain ⟨b, o, hA, hS, hr⟩ := h4 (by omega)
  obtain ⟨cs, h5, h6⟩ := RTs_get i hi hr
  cases hm : ts[i] with
  | mk v f bs =>
    rw [hm] at h5
    obtain ⟨Ai, ci, rfl, h7⟩ := h5.open
    exact ⟨b, o, hA, v, f, bs, Ai, ci, rfl, h7, h6 0 _ rfl, h6 1 _ rfl, h6 2 _ rfl⟩
theorem SF.at {S : Nat → Prop} {w : World} {A : Option Addr} {n c : Nat} {ks : List Fm} (h : SF S w A n c ks) (i : Nat) (hi : i < ks.length) :
    ∃ b o, A = some ⟨b, o, none⟩ ∧ ∃ k m vl fl al vr fr ar js Al cl Ar cr Ai ci, ks[i] = .mk k m (.mk vl fl al) (.mk vr fr ar) js ∧ ST S w Al al.length cl al ∧ ST S w Ar ar.length cr ar ∧ SF S w Ai js.length ci js ∧
      w.cell? ⟨b, o + i * 9, none⟩ = some (.int .i64 k) ∧ w.cell? ⟨b, o + i * 9 + 1, none⟩ = some (.string m) ∧ w.cell? ⟨b, o + i * 9 + 2, none⟩ = some (.int .i64 vl) ∧ w.cell? ⟨b, o + i * 9 + 3, none⟩ = some (.string fl) ∧ w.cell? ⟨b, o + i * 9 + 4, none⟩ = some (.slice Al al.length cl) ∧
      w.cell? ⟨b, o + i * 9 + 5, none⟩ = some (.int .i64 vr) ∧ w.cell? ⟨b, o + i * 9 + 6, none⟩ = some (.string fr) ∧ w.cell? ⟨b, o + i * 9 + 7, none⟩ = some (.slice Ar ar.length cr) ∧ w.cell? ⟨b, o + i * 9 + 8, none⟩ = some (.slice Ai js.length ci) := by
  obtain ⟨h1, h2, h3, h4⟩ := h
  obtain ⟨b, o, hA, hS, hr⟩ := h4 (by omega)
  obtain ⟨cs, h5, h6⟩ := RFs_get i hi hr
  cases hm : ks[i] with
  | mk k m l r js =>
    obtain ⟨vl, fl, al⟩ := l
    obtain ⟨vr, fr, ar⟩ := r
    rw [hm] at h5
    obtain ⟨Al, cl, Ar, cr, Ai, ci, rfl, h7, h8, h9⟩ := h5.open
    exact ⟨b, o, hA, k, m, vl, fl, al, vr, fr, ar, js, Al, cl, Ar, cr, Ai, ci, rfl, h7, h8, h9, h6 0 _ rfl, h6 1 _ rfl, h6 2 _ rfl, h6 3 _ rfl, h6 4 _ rfl, h6 5 _ rfl, h6 6 _ rfl, h6 7 _ rfl, h6 8 _ rfl⟩
/-! ### a parameter's box -/
theorem bel_box {w W : World} {o : Obj} (h : Below (w.heap.size + 1) (w.alloc o) W) : Below w.heap.size w W := ((Below.refl _ w).alloc (Nat.le_refl _) o).trans (h.mono (by omega))
theorem bel_size {w W : World} {o : Obj} (h : Below (w.heap.size + 1) (w.alloc o) W) : w.heap.size + 1 ≤ W.heap.size := by have := h.size; simpa using this
theorem bel_step {w W W' : World} {o : Obj} (h : Below (w.heap.size + 1) (w.alloc o) W) (hb : Below W.heap.size W W') : Below (w.heap.size + 1) (w.alloc o) W' := h.trans (hb.mono (bel_size h))
theorem bel_drew {w : World} {o : Obj} : Below (w.heap.size + 1) (w.alloc o) (w.alloc o).drew := ⟨rfl, rfl, rfl, Nat.le_refl _, fun _ _ => rfl⟩
theorem box_cell {w W : World} {cs : List Value} {T : TypeId} (h : Below (w.heap.size + 1) (w.alloc (.cells cs.toArray T)) W) (i : Nat) (u : Value) (hu : cs[i]? = some u) : W.cell? ⟨w.heap.size, i, none⟩ = some u :=
  (((Blk.new' w _ _ cs rfl).below h (by omega)).cell i).trans hu
/-! ### two parameters' boxes -/
theorem bel_two {w : World} {o p : Obj} : Below w.heap.size w ((w.alloc o).alloc p) := ((Below.refl _ w).alloc (Nat.le_refl _) _).alloc (by simp) _
theorem bel_box2 {w W : World} {o p : Obj} (h : Below (w.heap.size + 2) ((w.alloc o).alloc p) W) : Below w.heap.size w W := bel_two.trans (h.mono (by omega))
theorem bel_size2 {w W : World} {o p : Obj} (h : Below (w.heap.size + 2) ((w.alloc o).alloc p) W) : w.heap.size + 2 ≤ W.heap.size := by have := h.size; simpa using this
theorem bel_step2 {w W W' : World} {o p : Obj} (h : Below (w.heap.size + 2) ((w.alloc o).alloc p) W) (hb : Below W.heap.size W W') : Below (w.heap.size + 2) ((w.alloc o).alloc p) W' := h.trans (hb.mono (bel_size2 h))
theorem box2_fst {w W : World} {cs : List Value} {T : TypeId} {p : Obj} (h : Below (w.heap.size + 2) ((w.alloc (.cells cs.toArray T)).alloc p) W) (i : Nat) (u : Value) (hu : cs[i]? = some u) : W.cell? ⟨w.heap.size, i, none⟩ = some u :=
  ((((Blk.new' w _ _ cs rfl).alloc p).below h (by omega)).cell i).trans hu
theorem box2_snd {w W : World} {cs : List Value} {T : TypeId} {p : Obj} (h : Below (w.heap.size + 2) ((w.alloc p).alloc (.cells cs.toArray T)) W) (i : Nat) (u : Value) (hu : cs[i]? = some u) : W.cell? ⟨w.heap.size + 1, i, none⟩ = some u :=
  (((Blk.new' (w.alloc p) _ _ cs (by simp)).below h (by omega)).cell i).trans hu
end Go.Proofs.YtndjjnnljihmnaaGreat
