/- Contract of package text's Feed. -/
import Derived.Test.YtelhkbanohhjhaaDoorTxtH
import Derived.Shelf.RegionOpen
import Derived.Stop.RegionWithIn
import Derived.Outline
namespace Go.Proofs.YtelhkbanohhjhaaDoor.Tx
open Go.RowKit Go.Shelf Go.Proofs.YtelhkbanohhjhaaDoor.PFeed Go.Proofs.YtelhkbanohhjhaaDoorW.PrintWords
set_option linter.unusedVariables false
set_option linter.unusedSimpArgs false

theorem info38 : (Tryd.prog.info? 38).map (fun i => (i.zero, i.size, i.bytes)) = some (some (.agg #[.string ⟨#[]⟩, .int .i64 0]), 2, 24) := by kernel_rfl
theorem info5 : (Tryd.prog.info? 5).map (fun i => (i.zero, i.size, i.bytes)) = some (some (.int .u8 0), 1, 1) := by kernel_rfl

theorem pieces_in (v : Value) (h : ∃ A n c, v = .slice A n c) (w : World) (n : Nat) :
    CallsIn Fence.wide n Tryd.prog 25 #[v] w fun e w' => e = .returned (.func (.func 32) #[] #[.pointer (some ⟨w.heap.size, 0, none⟩)]) ∧ w' = w.alloc (.cells #[v] 22) := by
  obtain ⟨A, m, c, rfl⟩ := h
  refine callsIn_of_wp Tryd.func25 rfl trivial ?_ rfl
  simp only [Tryd.ntmps25, List.size_toArray, List.length_cons, List.length_nil, Nat.reduceAdd, Nat.reduceSub, Array.replicate_succ, Array.replicate_zero, List.push_toArray, List.append_toArray, List.nil_append, List.cons_append]
  gi_wp2
  go_ret
  exact ⟨rfl, rfl⟩

/-- What Feed comes to. -/
def FeedPost (base bb : Nat) (v0 : Value) (pend l : List Int) (w : World) (e : Ending) (w' : World) : Prop :=
  ∃ v u, e = .returned v ∧ w'.ownsRow w.heap.size 38 2 v (spl pend l).1.length (cellsL ((spl pend l).1.map lnOf)) ∧ BufAt w' base bb u (spl pend l).2 ∧
    (∀ k, u.ownBlock = some k → w.heap.size ≤ k ∨ v0.ownBlock = some k) ∧ Fr (fun i => i = bb ∨ v0.ownBlock = some i) w w'
def TT (w : World) (bb : Nat) (v0 : Value) (k : Nat) : Prop := k < w.heap.size ∧ k ≠ bb ∧ v0.ownBlock ≠ some k
/-! ### append within a region that draws, inside a fence: the walk's simp is kept from laying the builtin open -/
def appOp (ts : Array TypeId) (ty : TypeId) (args : Array Value) : Sem Value := Builtin.append_ ts ty args
theorem app_block (ts : Array TypeId) (ty : TypeId) (args : Array Value) : Builtin.append_ ts ty args = appOp ts ty args := rfl
theorem wpIn_once {F : Fence} {n : Nat} {P : Program} {c : Code} {Q : Exit → Act → World → Prop} {a : Act} {W : World} (W1 : World) (h : ∃ A1, c.wpIn F n P (fun e a' W' => e = .normal ∧ a' = A1 ∧ W' = W1) a W ∧ Q .normal A1 W1) : c.wpIn F n P Q a W := by
  obtain ⟨A1, h1, h2⟩ := h
  exact wpIn_mono h1 fun e a' W' ⟨he, ha, hw⟩ => by subst he ha hw; exact h2
theorem nums_cells {W : World} {A : Addr} {ys : List Int} (h : Kd.C (Kd.int .u8) W (some A) ys.length ys) : ∀ j u, (nums .u8 ys)[j]? = some u → W.cell? (A.add j) = some u := by
  intro j u hu
  have hj : j < ys.length := by
    have := (List.getElem?_eq_some_iff.1 hu).1
    simpa [nums] using this
  obtain ⟨ad, e, hc⟩ := Kd.at_int h j (by omega) (by omega)
  cases e
  simp [nums, List.getElem?_eq_getElem hj] at hu
  subst hu
  simpa [rd, List.getD_eq_getElem?_getD, List.getElem?_eq_getElem hj] using hc
theorem app_u8 {W : World} {base : Nat} {v : Value} {xs ys : List Int} {A : Option Addr} {c : Nat} (HO : W.ownsRow base 5 1 v xs.length (nums .u8 xs)) (hC : Kd.C (Kd.int .u8) W A ys.length ys) (hA : A = none → c = 0) (hb : base ≤ W.heap.size) (hl : xs.length + ys.length ≤ 140737488355328) :
    ∃ v' w', (appOp #[22, 22] 22 #[v, .slice A ys.length c]).run Tryd.prog W = .ok v' w' ∧ w'.ownsRow base 5 1 v' (xs ++ ys).length (nums .u8 (xs ++ ys)) ∧ W.grownBy w' v.ownBlock ∧ (v'.ownBlock = v.ownBlock ∨ v'.ownBlock = some W.heap.size) := by
  obtain ⟨i0, hi, hz0, hz1, hz2⟩ := info_parts info5
  cases A with
  | none =>
    have h0 : ys = [] := by
      cases ys with
      | nil => rfl
      | cons x l => obtain ⟨ad, h, _⟩ := Kd.at_int hC 0 (by omega) (by simp); cases h
    subst h0
    obtain rfl := hA rfl
    exact ⟨v, W, run_append_owned_none W base _ _ _ i0 1 Tryd.underlying22 hi v xs.length (nums .u8 xs) HO, by simpa using HO, World.grownBy.refl W _, .inl rfl⟩
  | some ad =>
    obtain ⟨v', w', h1, h2, h3, _, h5⟩ := run_append_own_at (P := Tryd.prog) W base 22 22 5 i0 (.int .u8 0) 1 1 Tryd.underlying22 hi hz0 hz1 hz2 rfl (by decide) v xs.length (nums .u8 xs) HO ad ys.length c (nums .u8 ys) (by simp [nums]) (nums_cells hC)
      (by intro u hu; simp only [nums, List.mem_map] at hu; obtain ⟨q, _, rfl⟩ := hu; rfl) (by unfold maxLen; omega) (by omega) hb
    exact ⟨v', w', h1, by simpa [nums] using h2, h3, h5⟩
theorem app_line {W : World} {base k : Nat} {v : Value} {xs : List Value} (HO : W.ownsRow base 38 2 v k xs) (hk : k ≤ 1048576) (hb : base ≤ W.heap.size) (s : ByteArray) (e : Int) :
    ∃ v' w', (appOp #[32, 32] 32 #[v, .slice (some ⟨W.heap.size, 0, none⟩) 1 1]).run Tryd.prog (W.alloc (.cells #[.string s, .int .i64 e] 38)) = .ok v' w' ∧ w'.ownsRow base 38 2 v' (k + 1) (xs ++ [.string s, .int .i64 e]) ∧ (W.alloc (.cells #[.string s, .int .i64 e] 38)).grownBy w' v.ownBlock := by
  obtain ⟨i0, hi, hz0, hz1, hz2⟩ := info_parts info38
  obtain ⟨v', w', h1, h2, h3, _, h5⟩ := run_append_own_at (P := Tryd.prog) (W.alloc (.cells #[.string s, .int .i64 e] 38)) base 32 32 38 i0 (.agg #[.string ⟨#[]⟩, .int .i64 0]) 2 24 Tryd.underlying32 hi hz0 hz1 hz2 rfl (by decide) v k xs (HO.alloc _) ⟨W.heap.size, 0, none⟩ 1 1 [.string s, .int .i64 e] rfl
    (by
      intro j u hj
      match j, hj with
      | 0, hj => simp at hj; subst hj; simp [Addr.add]
      | 1, hj => simp at hj; subst hj; simp [Addr.add])
    (by intro u hu; simp at hu; rcases hu with rfl | rfl <;> rfl) (by unfold maxLen; omega) (by omega) (by simp; omega)
  exact ⟨v', w', h1, h2, h3⟩
/-- A round's frame. -/
def AX (w : World) (bb : Nat) (A : Option Addr) (c : Nat) (l : List Int) (x : It) (a : Act) : Prop :=
  a = { tmps := #[.pointer (some ⟨bb, 0, none⟩), .slice A l.length c, .pointer (some ⟨w.heap.size, 0, none⟩), undef, .pointer (some ⟨w.heap.size + 1, 0, none⟩), .slice x.A x.l.length x.c, .bool x.e, .pointer (some ⟨bb, 0, none⟩), .bool false, .slice A l.length c,
    .func (.func 32) #[] #[.pointer (some ⟨w.heap.size + 2, 0, none⟩)], .slice x.A x.l.length x.c, .bool x.e, undef, undef, undef, undef, undef, undef, undef, undef, undef, undef, undef, undef, undef, undef, undef, undef, undef, undef, undef, undef, undef, undef, undef, undef, undef, undef, undef, undef, undef, undef, undef, undef, undef, undef, undef, undef, undef, undef, undef, undef, undef, undef, undef, undef, undef, undef, undef, undef, undef, undef, undef, undef, undef, undef, undef, undef, undef, undef, undef, undef, undef, undef, undef, undef, undef, undef, undef, undef], defers := [] }
theorem FI.own {w : World} {base bb : Nat} {v0 : Value} {outs : List S54} {pend : List Int} {W W' : World} {row : Option Nat} (h : FI w base bb v0 outs pend W) (hg : W.grownBy W' row) (hr : ∀ r, row = some r → w.heap.size + 3 ≤ r ∧ ∃ o : Obj, W.heap[r]? = some o ∧ o.isCells = false) : FI w base bb v0 outs pend W' := by
  have kb : ∀ {g : Nat} {T : TypeId} {vs : List Value}, Blk W g T vs → Blk W' g T vs := fun {g T vs} hb => (hg.block g hb.lt fun e => by
    obtain ⟨_, o, ho, hc⟩ := hr g e.symm
    rw [show W.heap[g]? = _ from hb] at ho
    cases ho; simp [Obj.isCells] at hc).trans hb
  have kr : ∀ {e : TypeId} {b size n : Nat} {v : Value} {xs : List Value}, W.ownsRow b e size v n xs → W'.ownsRow b e size v n xs := fun {e b size n v xs} hb => by
    refine ⟨hb.1, ?_⟩
    rcases hb.2 with h2 | ⟨g, cap, cur, rfl, hb, hh, h3⟩
    · exact .inl h2
    · refine .inr ⟨g, cap, cur, rfl, hb, ?_, h3⟩
      refine (hg.block g (Array.getElem?_eq_some_iff.1 hh).1 fun e => ?_).trans hh
      obtain ⟨_, o, ho, hc⟩ := hr g e.symm
      rw [hh] at ho
      cases ho; simp [Obj.isCells] at hc
  obtain ⟨v, h1, h2⟩ := h.out
  obtain ⟨u, hb, hu⟩ := h.buf
  obtain ⟨x, hx⟩ := h.box
  refine ⟨⟨v, kb h1, kr h2⟩, ⟨u, ⟨kb hb.blk, kr hb.row⟩, hu⟩, ⟨x, kb hx⟩, kb h.r0, h.fr.trans (S' := fun i => row = some i) ⟨hg.os, hg.tape, hg.output, hg.size, fun k hk hn => hg.block k hk fun e => hn e.symm⟩ (fun i hi e => ?_), Nat.le_trans h.sz hg.size, h.low⟩
  have := (hr i e).1; omega
theorem FI.setBox {w : World} {base bb : Nat} {v0 : Value} {outs : List S54} {pend : List Int} {W : World} (h : FI w base bb v0 outs pend W) (x : Value) : FI w base bb v0 outs pend (W.setCell ⟨w.heap.size + 2, 0, none⟩ x) := by
  obtain ⟨v, h1, h2⟩ := h.out
  obtain ⟨u, hb, hu⟩ := h.buf
  obtain ⟨y, hy⟩ := h.box
  have hlow := h.low
  have hf : Fr (fun i => i = w.heap.size + 2) W (W.setCell ⟨w.heap.size + 2, 0, none⟩ x) := (Fr.refl _ W).set _ _ _ rfl
  refine ⟨⟨v, h1.fr hf (by omega), row_fr h2 hf fun k hk e => ?_⟩, ⟨u, ⟨hb.blk.fr hf (by omega), row_fr hb.row hf fun k hk e => ?_⟩, hu⟩, ⟨x, by simpa using hy.set 0 x⟩, h.r0.fr hf (by omega), h.fr.trans hf (fun i hi e => by omega), by simpa [World.setCell] using h.sz, h.low⟩
  · obtain ⟨vs, q⟩ := row_blk h2 hk; subst e; exact absurd (blk_type q hy) (by decide)
  · obtain ⟨vs, q⟩ := row_blk hb.row hk; subst e; exact absurd (blk_type q hy) (by decide)
/-- What a round comes to. -/
def RdPost (w : World) (base bb : Nat) (v0 : Value) (os : List S54) (q : List Int) (xe : Bool) (W : World) : Exit → Act → World → Prop
  | .normal, _, W' => Mv w bb v0 W W' ∧ (if xe = true then FI w base bb v0 (os ++ [lnOf q]) [] W' else FI w base bb v0 os q W')
  | _, _, _ => False
theorem round_end {w : World} {base bb : Nat} {v0 : Value} {pend : List Int} {T : Nat → Prop} {pre : List (ItG w T)} {x : ItG w T} {os : List S54} {pd : List Int} {W : World} {C : Nat} {T' : Nat → Prop} (hos : os = (runP pend (pre.map fun x => x.1.key)).1.map lnOf) (hpd : pd = (runP pend (pre.map fun x => x.1.key)).2)
    (hM : ∀ W', Mv w bb v0 W W' → KeepsFrom C W W' ∧ KpT T' W W') : ∀ e a W', RdPost w base bb v0 os (pd ++ x.1.l) x.1.e W e a W' →
      boxPost C T' (fun (pre : List (ItG w T)) W => FI w base bb v0 ((runP pend (pre.map fun x => x.1.key)).1.map lnOf) (runP pend (pre.map fun x => x.1.key)).2 W) (pre ++ [x]) W e a W' := by
  intro e a W' h
  cases e with
  | normal =>
    obtain ⟨h1, h2⟩ := h
    obtain ⟨h3, h4⟩ := hM W' h1
    refine ⟨h3, h4, ?_⟩
    have e : (pre ++ [x]).map (fun x : ItG w T => x.1.key) = pre.map (fun x => x.1.key) ++ [(x.1.l, x.1.e)] := by simp [It.key]
    have hsn := run_snoc (pre.map fun x => x.1.key) pend x.1.l x.1.e
    simp only [e, hsn]
    cases hx : x.1.e
    · rw [hx] at h2
      simp only [Bool.false_eq_true, if_false] at h2 ⊢
      rw [← hos, ← hpd]; exact h2
    · rw [hx] at h2
      simp only [if_true, List.map_append, List.map_cons, List.map_nil] at h2 ⊢
      rw [← hos, ← hpd]; exact h2
  | ret => exact h.elim
  | exit id => exact h.elim
  | goto t => exact h.elim
  | panic ch => exact h.elim
  | outgrown => exact h.elim
theorem own_C {W : World} {base : Nat} {v : Value} {xs : List Int} (h : W.ownsRow base 5 1 v xs.length (nums .u8 xs)) : ∃ A c, v = .slice A xs.length c ∧ xs.length ≤ c ∧ Kd.C (Kd.int .u8) W A xs.length xs := by
  obtain ⟨A, c, e, hl, hr⟩ := own_reads_of_le (enc := Value.int .u8) (d := (0 : Int)) (xs := xs) h
  exact ⟨A, c, e, hl, Kd.C_of_reads (h1 := fun _ => rfl) hr⟩
theorem rd_false {w : World} {base bb : Nat} {v0 : Value} {os : List S54} {q : List Int} {W W' : World} {a : Act} (h1 : Mv w bb v0 W W') (h2 : FI w base bb v0 os q W') : RdPost w base bb v0 os q false W .normal a W' := ⟨h1, by simpa using h2⟩
theorem rd_true {w : World} {base bb : Nat} {v0 : Value} {os : List S54} {q : List Int} {W W' : World} {a : Act} (h1 : Mv w bb v0 W W') (h2 : FI w base bb v0 (os ++ [lnOf q]) [] W') : RdPost w base bb v0 os q true W .normal a W' := ⟨h1, by simpa using h2⟩
/-- What a told line leaves: the facts for the walk, and the law. -/
theorem FI.told {w : World} {base bb : Nat} {v0 : Value} {os : List S54} {q : List Int} {W1 : World} (h : FI w base bb v0 os q W1) (hk : os.length ≤ 1048576) (x : S54) {A : Option Addr} {n c : Nat}
    (ho : Blk W1 (w.heap.size + 1) 32 [.slice A n c]) (hro : W1.ownsRow w.heap.size 38 2 (.slice A n c) os.length (cellsL os)) :
    ∃ A3 n3 c3 w3, (appOp #[32, 32] 32 #[.slice A n c, .slice (some ⟨W1.heap.size, 0, none⟩) 1 1]).run Tryd.prog (W1.alloc (.cells #[.string x.f0, .int .i64 x.f1] 38)) = .ok (.slice A3 n3 c3) w3 ∧
      Blk w3 (w.heap.size + 1) 32 [.slice A n c] ∧ (FI w base bb v0 (os ++ [x]) q (w3.setCell ⟨w.heap.size + 1, 0, none⟩ (.slice A3 n3 c3)) ∧ Mv w bb v0 W1 (w3.setCell ⟨w.heap.size + 1, 0, none⟩ (.slice A3 n3 c3))) := by
  have hsz := h.sz
  obtain ⟨v', w', h1, h2, h3⟩ := app_line hro hk (by omega) x.f0 x.f1
  obtain ⟨A3, c3, rfl⟩ := own_slice h2
  have hf : Fr (fun i => (Value.slice A n c).ownBlock = some i) W1 w' := ((Fr.refl _ W1).alloc _).trans (S' := fun i => (Value.slice A n c).ownBlock = some i) ⟨h3.os, h3.tape, h3.output, h3.size, fun k hk hn => h3.block k hk fun e => hn e.symm⟩ (fun _ _ h => h)
  have hne : ¬ (Value.slice A n c).ownBlock = some (w.heap.size + 1) := fun e => by obtain ⟨vs, q⟩ := row_blk hro e; exact absurd (blk_type q ho) (by decide)
  have hb := ho.fr hf hne
  refine ⟨A3, os.length + 1, c3, w', h1, hb, h.line ho hro (S := fun i => i = w.heap.size + 1 ∨ (Value.slice A n c).ownBlock = some i) ((hf.mono fun i _ h => .inr h).set (w.heap.size + 1) 0 _ (.inl rfl)) (fun k hk => hk) x (by simpa using hb.set 0 (.slice A3 (os.length + 1) c3)) ?_⟩
  refine row_fr h2 ((Fr.refl (fun i => i = w.heap.size + 1) w').set _ 0 _ rfl) fun k hk e => ?_
  subst e
  obtain ⟨vs, q⟩ := row_blk h2 hk
  exact absurd (blk_type q hb) (by decide)
/-- The buffer set to nil, and whether its line is too long, in either order. -/
theorem FI.nil {w : World} {base bb : Nat} {v0 : Value} {outs : List S54} {pend pend' : List Int} {W W' : World} (h : FI w base bb v0 outs pend W) (hf : Fr (fun i => i = bb) W W') (hb : Blk W' bb 53 [.slice none 0 0, .bool (decide (65536 < pend'.length))]) (h0 : bufL pend' = []) :
    FI w base bb v0 outs pend' W' ∧ Mv w bb v0 W W' :=
  h.set hf (fun k hk => .inl hk) (v := .slice none 0 0) ⟨hb, by rw [h0]; exact ⟨rfl, .inl ⟨rfl, rfl⟩⟩⟩ (fun k hk => by simp [Value.ownBlock] at hk)
/-- The return: what the deferred row leaves. -/
theorem feed_ret {base bb : Nat} {v0 : Value} {pend l : List Int} {w W : World} {D : Nat} {tm : Array Value} (hD : w.heap.size + 3 ≤ D) (hI : FI w base bb v0 ((spl pend l).1.map lnOf) (spl pend l).2 W) (hK : W.heap[D]? = some (.deferred (some [])))
    (t4 : tm[4]? = some (.pointer (some ⟨w.heap.size + 1, 0, none⟩))) :
    ∃ u, (results Tryd.f14 tm).run Tryd.prog (W.putObj D (.deferred none)) = .ok u (W.putObj D (.deferred none)) ∧ FeedPost base bb v0 pend l w (.returned u) (W.putObj D (.deferred none)) := by
  have hI' := hI.own (grownBy_putObj' W D (.deferred none)) (fun r e => by cases e; exact ⟨hD, _, hK, rfl⟩)
  obtain ⟨v, h1, h2⟩ := hI'.out
  obtain ⟨u, hb, hu⟩ := hI'.buf
  have c1 := h1.cell 0
  simp only [List.getElem?_cons_zero] at c1
  obtain ⟨a, c, rfl⟩ := own_slice h2
  refine ⟨_, ?_, .slice a ((spl pend l).1.map lnOf).length c, u, rfl, by simpa using h2, hb, hu, hI'.fr⟩
  simp [results, Tryd.f14, go_sem, c1, t4]
theorem FI.resetOut {w : World} {base bb : Nat} {v0 : Value} {outs : List S54} {pend : List Int} {W : World} (h : FI w base bb v0 outs pend W) {v : Value} (hb : Blk W (w.heap.size + 1) 32 [v]) (hro : W.ownsRow w.heap.size 38 2 v outs.length (cellsL outs)) : FI w base bb v0 outs pend (W.setCell ⟨w.heap.size + 1, 0, none⟩ v) := by
  obtain ⟨u, hbu, hu⟩ := h.buf
  obtain ⟨y, hy⟩ := h.box
  have hlow := h.low
  have hsz := h.sz
  have hf : Fr (fun i => i = w.heap.size + 1) W (W.setCell ⟨w.heap.size + 1, 0, none⟩ v) := (Fr.refl _ W).set _ _ _ rfl
  refine ⟨⟨v, by simpa using hb.set 0 v, row_fr hro hf fun k hk e => ?_⟩, ⟨u, ⟨hbu.blk.fr hf (by omega), row_fr hbu.row hf fun k hk e => ?_⟩, hu⟩, ⟨y, hy.fr hf (by omega)⟩, h.r0.fr hf (by omega), h.fr.trans hf (fun i hi e => by omega), by simpa [World.setCell] using h.sz, h.low⟩
  · obtain ⟨vs, q⟩ := row_blk hro hk; subst e; exact absurd (blk_type q hb) (by decide)
  · obtain ⟨vs, q⟩ := row_blk hbu.row hk; subst e; exact absurd (blk_type q hb) (by decide)
attribute [local go_sem] Oper.semAt_some
attribute [local go_sem ↓] app_block
set_option maxRecDepth 100000 in
set_option maxHeartbeats 4000000 in
theorem feed_in (base bb : Nat) (v0 : Value) (pend : List Int) (A : Option Addr) (c : Nat) (l : List Int) (w : World) (hbuf : BufAt w base bb v0 pend) (hbase : base ≤ w.heap.size) (hA : A = none → c = 0) (hg : It.good w (TT w bb v0) ⟨A, c, l, false⟩) :
    CallsIn Fence.wide 3 Tryd.prog 14 #[.pointer (some ⟨bb, 0, none⟩), .slice A l.length c] w (FeedPost base bb v0 pend l w) := by
  have HG := Lib.hid hg
  have HBUF := Lib.hid hbuf
  have HA := Lib.hid hA
  have hbl := hbuf.blk.lt
  clear hg hbuf hA
  refine callsIn_of_wp_marks Tryd.func14 rfl trivial ?_ rfl
  simp only [Tryd.ntmps14, List.size_toArray, List.length_cons, List.length_nil, Nat.reduceAdd, Nat.reduceSub, Array.replicate_succ, Array.replicate_zero, List.push_toArray, List.append_toArray, List.nil_append, List.cons_append]
  gi_wp2_with fail
  refine ⟨trivial, (pieces_in _ ⟨_, _, _, rfl⟩ _ _).mono ?_⟩
  rintro e w' ⟨rfl, rfl⟩
  gi_wp2_with fail
  obtain ⟨B, hB⟩ : ∃ B, B = w.heap.size := ⟨_, rfl⟩
  obtain ⟨w5, hw5⟩ : ∃ w5, w5 = (((w.alloc (.cells #[.pointer (some ⟨bb, 0, none⟩)] 26)).alloc (.cells #[.slice none 0 0] 32)).alloc (.cells #[.slice A l.length c] 22)) := ⟨_, rfl⟩
  have s5 : w5.heap.size = B + 3 := by rw [hw5, hB]; simp
  have b0 : Blk w5 B 26 [.pointer (some ⟨bb, 0, none⟩)] := by rw [hw5]; exact ((Blk.new' _ _ _ [_] hB).alloc _).alloc _
  have b1 : Blk w5 (B + 1) 32 [.slice none 0 0] := by rw [hw5]; exact (Blk.new' _ _ _ [_] (by simp [hB])).alloc _
  have b2 : Blk w5 (B + 2) 22 [.slice A l.length c] := by rw [hw5]; exact Blk.new' _ _ _ [_] (by simp [hB])
  have hfr : Fr (fun _ => False) w w5 := by rw [hw5]; exact (((Fr.refl _ w).alloc _).alloc _).alloc _
  rw [← hw5]
  clear hw5
  rw [← hB]
  rw [show B + 1 + 1 = B + 2 from rfl]
  have hT : ∀ k, TT w bb v0 k → k < w.heap.size := fun k h => h.1
  have hk5 : KpT (TT w bb v0) w w5 := KpT.of_fr hfr fun k hk => ⟨hk.1, id⟩
  have HB := Lib.hid hB
  have S5 := Lib.hid s5
  have HST : Hid (FI w base bb v0 [] pend w5) := Lib.hid (by
    subst hB
    exact ⟨⟨_, b1, ⟨rfl, .inl ⟨rfl, rfl⟩⟩⟩, ⟨v0, ⟨HBUF.out.blk.fr hfr id, row_fr HBUF.out.row hfr fun _ _ => id⟩, fun k hk => .inr hk⟩, ⟨_, b2⟩, b0, hfr.mono fun _ _ h => h.elim, by omega, hbl⟩)
  have HS := iter_box (3 - 1) (by omega) (B + 2) w (TT w bb v0) hT (fun h => by have := h.1; omega) A c l HA.out HG.out w5 hk5 b2
  refine wpIn_range_box rfl (by omega) (gf := 32) (lb := #[.pointer (some ⟨B + 2, 0, none⟩)]) rfl trivial (enters_of Tryd.func32 (by kernel_rfl) rfl) HS (by omega) (fun k hk => by rcases hk with hk | hk; (have := hT k hk; omega); omega) (Below.refl _ _) (fun _ => rfl)
    (fun pre W => FI w base bb v0 ((runP pend (pre.map fun x => x.1.key)).1.map lnOf) (runP pend (pre.map fun x => x.1.key)).2 W) ?own ?box HST.out (fun x a _ => AX w bb A c l x.1 a) (fun x a => fun _ _ _ _ h _ _ => h) ?assign ?body ?done
  case own => intro s X Y row h hg hr; exact h.own hg (by rw [← HB.out, ← S5.out]; exact hr)
  case box => intro s X v h; have := h.setBox v; rw [← HB.out] at this; exact this
  case assign =>
    intro lp pre x W K hI hK
    have HK := Lib.hid hK
    have HI := Lib.hid hI
    clear hK hI
    gi_wp2
    exact HK.out _ _ (KeepsFrom.refl _ _) (KpT.refl _ _) HI.out (by unfold AX; rw [← HB.out])
  case body =>
    intro lp pre x a' W hl hrec hI hAx hlen
    have hol : (runP pend (pre.map fun x => x.1.key)).1.length ≤ 1048576 := by
      have := run_len (pre.map fun x => x.1.key) pend
      have h2 := HG.out.2.1
      simp only [List.length_map] at this
      simp only at h2
      omega
    obtain ⟨os, hos⟩ : ∃ os, os = (runP pend (pre.map fun x => x.1.key)).1.map lnOf := ⟨_, rfl⟩
    obtain ⟨pd, hpd⟩ : ∃ pd, pd = (runP pend (pre.map fun x => x.1.key)).2 := ⟨_, rfl⟩
    have hol2 : os.length ≤ 1048576 := by rw [hos]; simpa using hol
    refine wpIn_mono ?_ (round_end (pd := pd) hos hpd (fun W' h => by rw [S5.out, HB.out]; exact h))
    rw [← hos, ← hpd] at hI
    clear hos hpd hol hlen hl hrec
    obtain ⟨xi, hxi⟩ : ∃ xi, xi = x.1 := ⟨_, rfl⟩
    have hx := x.2
    rw [← hxi] at hx hAx ⊢
    clear hxi x
    obtain ⟨xA, xc, xl, xe⟩ := xi
    unfold AX at hAx
    dsimp only at hAx
    subst hAx
    have HI := Lib.hid hI
    have HXG := Lib.hid hx
    clear hx
    change Code.wpIn _ _ _ _ (RdPost w base bb v0 os (pd ++ xl) xe W) _ _
    have mixed : Tryd.prog.follows .mixedOrders = true := by kernel_rfl
    -- the facts of the buffer
    obtain ⟨v, ⟨hbb, hrow⟩, hvk⟩ := hI.buf
    have q0 := hI.r0.cell 0
    have f0 := hI.r0.free 0
    have q1 := hbb.cell 0
    have q2 := hbb.cell 1
    have g1 := hbb.free 0
    have g2 := hbb.free 1
    simp only [List.getElem?_cons_zero, List.getElem?_cons_succ] at q0 q1 q2
    obtain ⟨Av, cv, rfl⟩ := own_slice hrow
    have HROW := Lib.hid hrow
    have HBB := Lib.hid hbb
    have HVK := Lib.hid hvk
    clear hI hrow hbb hvk
    by_cases hp : 65536 < pd.length
    · have e1 : decide (65536 < pd.length) = true := by simpa using hp
      have hL : 65536 < (pd ++ xl).length := by simp; omega
      rw [e1] at q2
      have hnb := ((HBB.out.set 1 (.bool true)).set 0 (.slice none 0 0)).drew
      have hfr1 := (((Fr.refl (fun i => i = bb) W).set bb 1 (.bool true) rfl).set bb 0 (.slice none 0 0) rfl).drew
      have HST1 := Lib.hid (HI.out.nil (pend' := pd ++ xl) hfr1 (by rw [show decide (65536 < (pd ++ xl).length) = true by simpa using hL]; exact hnb) (by unfold bufL; rw [if_pos hL]))
      clear hnb hfr1 hbl
      gi_wp2_with fail
      refine wpIn_once (((W.setCell ⟨bb, 1, none⟩ (.bool true)).setCell ⟨bb, 0, none⟩ (.slice none 0 0)).drew) ?_
      apply Exists.intro
      refine And.intro ?_ ?_
      · gi_region_with_o (fail)
        all_goals exact ⟨rfl, rfl, rfl⟩
      · generalize ((W.setCell ⟨bb, 1, none⟩ (.bool true)).setCell ⟨bb, 0, none⟩ (.slice none 0 0)).drew = W1 at *
        cases xe
        · gi_wp2
          exact rd_false HST1.out.2 HST1.out.1
        · obtain ⟨vo, ho, hro⟩ := HST1.out.1.out
          obtain ⟨Ao, co, rfl⟩ := own_slice hro
          obtain ⟨A3, n3, c3, w3, hrun3, hb3, hst⟩ := HST1.out.1.told hol2 ⟨⟨#[]⟩, 11⟩ ho hro
          obtain ⟨u, ⟨hub, hur⟩, huk⟩ := HST1.out.1.buf
          have r0 := HST1.out.1.r0.cell 0
          have r1 := hub.cell 1
          have r2 := ho.cell 0
          have r3 := hb3.cell 0
          have r4 := hb3.free 0
          have hLd : decide (65536 < (pd ++ xl).length) = true := by simpa using hL
          simp only [List.getElem?_cons_zero, List.getElem?_cons_succ, hLd] at r0 r1 r2 r3
          have HST2 : Hid (FI w base bb v0 (os ++ [lnOf (pd ++ xl)]) (pd ++ xl) (w3.setCell ⟨w.heap.size + 1, 0, none⟩ (.slice A3 n3 c3)) ∧ Mv w bb v0 W (w3.setCell ⟨w.heap.size + 1, 0, none⟩ (.slice A3 n3 c3))) := Lib.hid (by
            have e : lnOf (pd ++ xl) = ⟨⟨#[]⟩, 11⟩ := by unfold lnOf; rw [if_pos hL]
            rw [e]; exact ⟨hst.1, HST1.out.2.trans hst.2⟩)
          clear hst ho hro hb3 hub hur huk hLd q0 q1 q2 f0 g1 g2
          gi_wp2_with fail
          generalize w3.setCell ⟨w.heap.size + 1, 0, none⟩ (.slice A3 n3 c3) = W2 at *
          clear r0 r2 r3 r4 hrun3
          obtain ⟨u2, ⟨hub2, _⟩, _⟩ := HST2.out.1.buf
          have s0 := HST2.out.1.r0.cell 0
          have s1 := hub2.cell 0
          have s2 := hub2.cell 1
          have s3 := hub2.free 0
          have s4 := hub2.free 1
          simp only [List.getElem?_cons_zero, List.getElem?_cons_succ] at s0 s1 s2
          have hnb2 := ((hub2.set 0 (.slice none 0 0)).set 1 (.bool false)).drew
          have hfr2 := (((Fr.refl (fun i => i = bb) W2).set bb 0 (.slice none 0 0) rfl).set bb 1 (.bool false) rfl).drew
          have HST3 := Lib.hid (HST2.out.1.nil (pend' := []) hfr2 hnb2 rfl)
          clear hub2 hnb2 hfr2
          have hbw : bb < w.heap.size := HST2.out.1.low
          refine wpIn_once (((W2.setCell ⟨bb, 0, none⟩ (.slice none 0 0)).setCell ⟨bb, 1, none⟩ (.bool false)).drew) ?_
          apply Exists.intro
          refine And.intro ?_ ?_
          · gi_region_with_o (fail)
            all_goals exact ⟨rfl, rfl, rfl⟩
          · gi_wp2
            exact rd_true (HST2.out.2.trans HST3.out.2) HST3.out.1
    · have e1 : decide (65536 < pd.length) = false := by simpa using hp
      have hbl2 : bufL pd = pd := by unfold bufL; rw [if_neg hp]
      rw [hbl2] at q1 HROW HBB HVK
      clear hbl2
      by_cases hL : 65536 < (pd ++ xl).length
      · have e2 : decide ((65536 : Int) < (pd.length : Int) + (xl.length : Int)) = true := by
          simp only [List.length_append] at hL
          simp; omega
        have b1 : pd.length ≤ 65536 := by omega
        have b2 : xl.length ≤ 1048576 := HXG.out.2.1
        rw [e1] at q2
        have hnb := ((HBB.out.set 1 (.bool true)).set 0 (.slice none 0 0)).drew
        have hfr1 := (((Fr.refl (fun i => i = bb) W).set bb 1 (.bool true) rfl).set bb 0 (.slice none 0 0) rfl).drew
        have HST1 := Lib.hid (HI.out.nil (pend' := pd ++ xl) hfr1 (by rw [show decide (65536 < (pd ++ xl).length) = true by simpa using hL]; exact hnb) (by unfold bufL; rw [if_pos hL]))
        clear hnb hfr1 hbl
        gi_wp2_with fail
        refine wpIn_once (((W.setCell ⟨bb, 1, none⟩ (.bool true)).setCell ⟨bb, 0, none⟩ (.slice none 0 0)).drew) ?_
        apply Exists.intro
        refine And.intro ?_ ?_
        · gi_region_with_o (fail)
          all_goals exact ⟨rfl, rfl, rfl⟩
        · generalize ((W.setCell ⟨bb, 1, none⟩ (.bool true)).setCell ⟨bb, 0, none⟩ (.slice none 0 0)).drew = W1 at *
          cases xe
          · gi_wp2
            exact rd_false HST1.out.2 HST1.out.1
          · obtain ⟨vo, ho, hro⟩ := HST1.out.1.out
            obtain ⟨Ao, co, rfl⟩ := own_slice hro
            obtain ⟨A3, n3, c3, w3, hrun3, hb3, hst⟩ := HST1.out.1.told hol2 ⟨⟨#[]⟩, 11⟩ ho hro
            obtain ⟨u, ⟨hub, hur⟩, huk⟩ := HST1.out.1.buf
            have r0 := HST1.out.1.r0.cell 0
            have r1 := hub.cell 1
            have r2 := ho.cell 0
            have r3 := hb3.cell 0
            have r4 := hb3.free 0
            have hLd : decide (65536 < (pd ++ xl).length) = true := by simpa using hL
            simp only [List.getElem?_cons_zero, List.getElem?_cons_succ, hLd] at r0 r1 r2 r3
            have HST2 : Hid (FI w base bb v0 (os ++ [lnOf (pd ++ xl)]) (pd ++ xl) (w3.setCell ⟨w.heap.size + 1, 0, none⟩ (.slice A3 n3 c3)) ∧ Mv w bb v0 W (w3.setCell ⟨w.heap.size + 1, 0, none⟩ (.slice A3 n3 c3))) := Lib.hid (by
              have e : lnOf (pd ++ xl) = ⟨⟨#[]⟩, 11⟩ := by unfold lnOf; rw [if_pos hL]
              rw [e]; exact ⟨hst.1, HST1.out.2.trans hst.2⟩)
            clear hst ho hro hb3 hub hur huk hLd q0 q1 q2 f0 g1 g2
            gi_wp2_with fail
            generalize w3.setCell ⟨w.heap.size + 1, 0, none⟩ (.slice A3 n3 c3) = W2 at *
            clear r0 r2 r3 r4 hrun3
            obtain ⟨u2, ⟨hub2, _⟩, _⟩ := HST2.out.1.buf
            have s0 := HST2.out.1.r0.cell 0
            have s1 := hub2.cell 0
            have s2 := hub2.cell 1
            have s3 := hub2.free 0
            have s4 := hub2.free 1
            simp only [List.getElem?_cons_zero, List.getElem?_cons_succ] at s0 s1 s2
            have hnb2 := ((hub2.set 0 (.slice none 0 0)).set 1 (.bool false)).drew
            have hfr2 := (((Fr.refl (fun i => i = bb) W2).set bb 0 (.slice none 0 0) rfl).set bb 1 (.bool false) rfl).drew
            have HST3 := Lib.hid (HST2.out.1.nil (pend' := []) hfr2 hnb2 rfl)
            clear hub2 hnb2 hfr2
            have hbw : bb < w.heap.size := HST2.out.1.low
            refine wpIn_once (((W2.setCell ⟨bb, 0, none⟩ (.slice none 0 0)).setCell ⟨bb, 1, none⟩ (.bool false)).drew) ?_
            apply Exists.intro
            refine And.intro ?_ ?_
            · gi_region_with_o (fail)
              all_goals exact ⟨rfl, rfl, rfl⟩
            · gi_wp2
              exact rd_true (HST2.out.2.trans HST3.out.2) HST3.out.1
      · have e2 : decide ((65536 : Int) < (pd.length : Int) + (xl.length : Int)) = false := by
          simp only [List.length_append] at hL
          simp; omega
        have b1 : pd.length ≤ 65536 := by omega
        have b2 : xl.length ≤ 1048576 := HXG.out.2.1
        have HKP : KpT (TT w bb v0) w W := KpT.of_fr HI.out.fr fun k hk => ⟨hk.1, fun h => h.elim (fun e => hk.2.1 e) (fun e => hk.2.2 e)⟩
        have hsz := HI.out.sz
        obtain ⟨v2, w2, hrun, hr2, hgr2, hat2⟩ := app_u8 (W := W.drew) (xs := pd) (ys := xl) (A := xA) HROW.out (HXG.out.2.2.2.1 _ (show KpT (TT w bb v0) w W.drew from HKP)) (c := xc) HXG.out.2.2.2.2 (by show base ≤ W.heap.size; omega) (by omega)
        have hf2 : Fr (fun i => (Value.slice Av pd.length cv).ownBlock = some i) W w2 := ⟨hgr2.os, hgr2.tape, hgr2.output, hgr2.size, fun k hk hn => hgr2.block k hk fun e => hn e.symm⟩
        have hne : ¬ (Value.slice Av pd.length cv).ownBlock = some bb := fun e => by obtain ⟨vs, q⟩ := row_blk HROW.out e; exact absurd (blk_type q HBB.out) (by decide)
        have hb3 := HBB.out.fr hf2 hne
        have c1 := hb3.cell 0
        have c2 := hb3.free 0
        simp only [List.getElem?_cons_zero] at c1
        have hr0 : Blk w2 w.heap.size 26 [.pointer (some ⟨bb, 0, none⟩)] := HI.out.r0.fr hf2 fun e => by obtain ⟨vs, q⟩ := row_blk HROW.out e; exact absurd (blk_type q HI.out.r0) (by decide)
        have c3 := hr0.cell 0
        simp only [List.getElem?_cons_zero] at c3
        obtain ⟨A2, cv2, hv2e⟩ := own_slice hr2
        subst hv2e
        have HST1 := Lib.hid (HI.out.set (pend' := pd ++ xl) (W' := w2.setCell ⟨bb, 0, none⟩ (.slice A2 (pd ++ xl).length cv2)) (S := fun i => i = bb ∨ (Value.slice Av pd.length cv).ownBlock = some i) ((hf2.mono fun i _ h => .inr h).set bb 0 _ (.inl rfl))
          (fun k hk => hk.imp id fun e => ⟨row_blk HROW.out e, HVK.out k e⟩) (v := .slice A2 (pd ++ xl).length cv2)
          ⟨by
            have := hb3.set 0 (.slice A2 (pd ++ xl).length cv2)
            rw [e1] at this
            rw [show decide (65536 < (pd ++ xl).length) = false by simpa using hL]
            exact this, by
            have hbl3 : bufL (pd ++ xl) = pd ++ xl := by unfold bufL; rw [if_neg hL]
            rw [hbl3]
            refine row_fr hr2 ((Fr.refl (fun i => i = bb) w2).set bb 0 _ rfl) fun k hk e => ?_
            subst e
            obtain ⟨vs, q⟩ := row_blk hr2 hk
            exact absurd (blk_type q hb3) (by decide)⟩
          (fun k hk => by
            rcases hat2 with e | e
            · rw [e] at hk; exact HVK.out k hk
            · rw [e] at hk; cases hk; left; show w.heap.size ≤ W.heap.size; omega))
        rw [e1] at q2
        have q0' := q0
        clear hr2 hgr2 hat2 hf2 hne hb3 hr0 hbl HKP
        simp only [List.length_append] at hrun HST1
        gi_wp2_with fail
        refine wpIn_once (w2.setCell ⟨bb, 0, none⟩ (.slice A2 (pd.length + xl.length) cv2)) ?_
        apply Exists.intro
        refine And.intro ?_ ?_
        · gi_region_with (fail)
          all_goals exact ⟨rfl, rfl, rfl⟩
        · generalize w2.setCell ⟨bb, 0, none⟩ (.slice A2 (pd.length + xl.length) cv2) = W1 at *
          clear hrun c1 c2 c3 q0 q1 q2 q0' f0 g1 g2 e2 b1 b2
          have hql : (pd ++ xl).length ≤ 65536 := by omega
          have hbq : bufL (pd ++ xl) = pd ++ xl := by unfold bufL; rw [if_neg hL]
          have HTL : Hid (∀ x : S54, x = lnOf (pd ++ xl) → True) := Lib.hid (fun _ _ => trivial)
          generalize pd ++ xl = q at *
          cases xe
          · gi_wp2
            exact rd_false HST1.out.2 HST1.out.1
          · obtain ⟨u, ⟨hub, hur⟩, huk⟩ := HST1.out.1.buf
            rw [hbq] at hur
            obtain ⟨Au, cu, rfl, hcu, hCu⟩ := own_C hur
            have HCU := Lib.hid hCu
            have r0 := HST1.out.1.r0.cell 0
            have r1 := hub.cell 1
            have r1' := hub.cell 0
            have hLd : decide (65536 < q.length) = false := by simpa using hL
            simp only [List.getElem?_cons_zero, List.getElem?_cons_succ, hLd] at r0 r1 r1'
            have HVAL := Lib.hid (valid_any Au cu q W1 (by omega) hcu hCu)
            clear hub hur huk hLd hCu hbq
            gi_wp2_with fail
            refine ⟨trivial, (CallsIn.inRound lp (callsIn_wide.2 HVAL.out)).mono ?_⟩
            rintro e w4 ⟨rfl, hd4⟩
            have HST4 : Hid (FI w base bb v0 os q w4 ∧ Mv w bb v0 W w4) := Lib.hid (by
              obtain ⟨m, rfl⟩ := hd4
              have hf : Fr (fun _ => False) W1 (W1.drewN m) := (Fr.refl _ _).drewN m
              exact ⟨HST1.out.1.fr' hf, HST1.out.2.trans (Mv.of_fr hf HST1.out.1.sz (fun _ h => h.elim) (fun _ h => h.elim))⟩)
            have HC4 : Hid (Kd.C (Kd.int .u8) w4 Au q.length q) := Lib.hid (c_drawn HCU.out hd4)
            have r1d : w4.cell? ⟨bb, 0, none⟩ = some (.slice Au q.length cu) := by obtain ⟨m, rfl⟩ := hd4; exact r1'
            clear hd4 r0 r1 r1'
            cases hvv : validB q
            · have HVV := Lib.hid hvv
              clear hvv
              obtain ⟨vo, ho, hro⟩ := HST4.out.1.out
              obtain ⟨Ao, co, rfl⟩ := own_slice hro
              obtain ⟨A3, n3, c3, w3, hrun3, hb3, hst⟩ := HST4.out.1.told hol2 ⟨⟨#[]⟩, 10⟩ ho hro
              have r0 := HST4.out.1.r0.cell 0
              have r2 := ho.cell 0
              have r3 := hb3.cell 0
              have r4 := hb3.free 0
              simp only [List.getElem?_cons_zero, List.getElem?_cons_succ] at r0 r2 r3
              have HST2 : Hid (FI w base bb v0 (os ++ [lnOf q]) q (w3.setCell ⟨w.heap.size + 1, 0, none⟩ (.slice A3 n3 c3)) ∧ Mv w bb v0 W (w3.setCell ⟨w.heap.size + 1, 0, none⟩ (.slice A3 n3 c3))) := Lib.hid (by
                have e : lnOf q = ⟨⟨#[]⟩, 10⟩ := by unfold lnOf; rw [if_neg hL, HVV.out]; rfl
                rw [e]; exact ⟨hst.1, HST4.out.2.trans hst.2⟩)
              clear hst ho hro hb3 r1d
              gi_wp2_with fail
              generalize w3.setCell ⟨w.heap.size + 1, 0, none⟩ (.slice A3 n3 c3) = W2 at *
              clear r0 r2 r3 r4 hrun3
              obtain ⟨u2, ⟨hub2, _⟩, _⟩ := HST2.out.1.buf
              have s0 := HST2.out.1.r0.cell 0
              have s1 := hub2.cell 0
              have s2 := hub2.cell 1
              have s3 := hub2.free 0
              have s4 := hub2.free 1
              simp only [List.getElem?_cons_zero, List.getElem?_cons_succ] at s0 s1 s2
              have hnb2 := ((hub2.set 0 (.slice none 0 0)).set 1 (.bool false)).drew
              have hfr2 := (((Fr.refl (fun i => i = bb) W2).set bb 0 (.slice none 0 0) rfl).set bb 1 (.bool false) rfl).drew
              have HST3 := Lib.hid (HST2.out.1.nil (pend' := []) hfr2 hnb2 rfl)
              clear hub2 hnb2 hfr2
              have hbw : bb < w.heap.size := HST2.out.1.low
              refine wpIn_once (((W2.setCell ⟨bb, 0, none⟩ (.slice none 0 0)).setCell ⟨bb, 1, none⟩ (.bool false)).drew) ?_
              apply Exists.intro
              refine And.intro ?_ ?_
              · gi_region_with_o (fail)
                all_goals exact ⟨rfl, rfl, rfl⟩
              · gi_wp2
                exact rd_true (HST2.out.2.trans HST3.out.2) HST3.out.1
            · have HVV := Lib.hid hvv
              clear hvv
              have hfd : Fr (fun _ => False) w4 w4.drew := (Fr.refl _ _).drew
              have HST5 : Hid (FI w base bb v0 os q w4.drew ∧ Mv w bb v0 W w4.drew) := Lib.hid ⟨HST4.out.1.fr' hfd, HST4.out.2.trans (Mv.of_fr hfd HST4.out.1.sz (fun _ h => h.elim) (fun _ h => h.elim))⟩
              obtain ⟨vo, ho, hro⟩ := HST5.out.1.out
              obtain ⟨Ao, co, rfl⟩ := own_slice hro
              obtain ⟨A3, n3, c3, w3, hrun3, hb3, hst⟩ := HST5.out.1.told hol2 ⟨strOfNums q, 0⟩ ho hro
              have hcv := Kd.C_string (P := Tryd.prog) (A := Au) (c := cu) Tryd.underlying22 Tryd.underlying5 Tryd.underlying9 (show Kd.C (Kd.int .u8) w4.drew Au q.length q from Kd.C_drew HC4.out)
              have r0 := HST4.out.1.r0.cell 0
              have r2 : w4.cell? ⟨w.heap.size + 1, 0, none⟩ = _ := ho.cell 0
              have r3 := hb3.cell 0
              have r4 := hb3.free 0
              simp only [List.getElem?_cons_zero, List.getElem?_cons_succ] at r0 r2 r3
              have HST2 : Hid (FI w base bb v0 (os ++ [lnOf q]) q (w3.setCell ⟨w.heap.size + 1, 0, none⟩ (.slice A3 n3 c3)) ∧ Mv w bb v0 W (w3.setCell ⟨w.heap.size + 1, 0, none⟩ (.slice A3 n3 c3))) := Lib.hid (by
                have e : lnOf q = ⟨strOfNums q, 0⟩ := by unfold lnOf; rw [if_neg hL, HVV.out]; rfl
                rw [e]; exact ⟨hst.1, HST5.out.2.trans hst.2⟩)
              clear hst ho hro hb3 hfd
              have hsd : w4.drew.heap.size = w4.heap.size := rfl
              rw [hsd, show ∀ o, w4.drew.alloc o = (w4.alloc o).drew from fun _ => rfl] at hrun3
              clear hsd
              have hlt4 : w.heap.size + 1 < w4.heap.size := by have := HST4.out.1.sz; omega
              gi_wp2_with fail
              refine wpIn_once (w3.setCell ⟨w.heap.size + 1, 0, none⟩ (.slice A3 n3 c3)) ?_
              apply Exists.intro
              refine And.intro ?_ ?_
              · gi_region_with (fail)
                all_goals exact ⟨rfl, rfl, rfl⟩
              clear hcv r1d
              gi_wp2_with fail
              generalize w3.setCell ⟨w.heap.size + 1, 0, none⟩ (.slice A3 n3 c3) = W2 at *
              clear r0 r2 r3 r4 hrun3
              obtain ⟨u2, ⟨hub2, _⟩, _⟩ := HST2.out.1.buf
              have s0 := HST2.out.1.r0.cell 0
              have s1 := hub2.cell 0
              have s2 := hub2.cell 1
              have s3 := hub2.free 0
              have s4 := hub2.free 1
              simp only [List.getElem?_cons_zero, List.getElem?_cons_succ] at s0 s1 s2
              have hnb2 := ((hub2.set 0 (.slice none 0 0)).set 1 (.bool false)).drew
              have hfr2 := (((Fr.refl (fun i => i = bb) W2).set bb 0 (.slice none 0 0) rfl).set bb 1 (.bool false) rfl).drew
              have HST3 := Lib.hid (HST2.out.1.nil (pend' := []) hfr2 hnb2 rfl)
              clear hub2 hnb2 hfr2
              have hbw : bb < w.heap.size := HST2.out.1.low
              refine wpIn_once (((W2.setCell ⟨bb, 0, none⟩ (.slice none 0 0)).setCell ⟨bb, 1, none⟩ (.bool false)).drew) ?_
              apply Exists.intro
              refine And.intro ?_ ?_
              · gi_region_with_o (fail)
                all_goals exact ⟨rfl, rfl, rfl⟩
              · gi_wp2
                exact rd_true (HST2.out.2.trans HST3.out.2) HST3.out.1
  case done =>
    intro D xs W hD hxs hI hK
    rw [hxs, run_pcs, List.append_nil] at hI
    obtain ⟨v, hbv, hown⟩ := hI.out
    obtain ⟨va, vc, rfl⟩ := own_slice hown
    have cv := hbv.cell 0
    have f0 := hbv.free 0
    simp only [List.getElem?_cons_zero] at cv
    have HI := Lib.hid hI
    have HR := Lib.hid (hI.resetOut hbv hown)
    rw [List.length_map] at HR cv
    have HK := Lib.hid hK
    clear hI hK hown hbv hxs
    rw [← hB] at HR
    rw [← HB.out] at cv f0
    rename_i K hKK
    show K _ _
    refine hKK _ _ ?_
    clear hKK K hB s5 b0 b1 b2
    gi_wp2_with fail
    have hK' := (KeepsOthers.setCell W ⟨B + 1, 0, none⟩ (.slice va (spl pend l).1.length vc)).same D _ HK.out rfl
    refine ⟨by simp, .inl ⟨_, _, rfl, run_takeDeferred hK', ?_⟩⟩
    have hB := HB.out
    subst hB
    exact feed_ret (by have := S5.out; omega) HR.out hK' rfl
/-- Feed: of any chunk. -/
theorem feed_any (base bb : Nat) (v0 : Value) (pend : List Int) (A : Option Addr) (c : Nat) (l : List Int) (w : World) (hbuf : BufAt w base bb v0 pend) (hbase : base ≤ w.heap.size) (hA : A = none → c = 0) (hg : It.good w (TT w bb v0) ⟨A, c, l, false⟩) :
    Calls Tryd.prog 14 #[.pointer (some ⟨bb, 0, none⟩), .slice A l.length c] w (FeedPost base bb v0 pend l w) := callsIn_wide.1 (feed_in base bb v0 pend A c l w hbuf hbase hA hg)
end Go.Proofs.YtelhkbanohhjhaaDoor.Tx
