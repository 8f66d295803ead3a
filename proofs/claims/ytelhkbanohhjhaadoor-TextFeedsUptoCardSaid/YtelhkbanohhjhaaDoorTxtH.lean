/- What holds within package text's Feed: the buffer, the lines told, and what each step leaves of them. -/
import Derived.Test.YtelhkbanohhjhaaDoorTxtG
namespace Go.Proofs.YtelhkbanohhjhaaDoor.Tx
open Go.RowKit Go.Shelf Go.Proofs.YtelhkbanohhjhaaDoor.PFeed Go.Proofs.YtelhkbanohhjhaaDoorW.PrintWords
set_option linter.unusedVariables false
set_option linter.unusedSimpArgs false

/-! ### the plain law of a round -/
def runP : List Int → List (List Int × Bool) → List (List Int) × List Int
  | pend, [] => ([], pend)
  | pend, (p, true) :: r => ((pend ++ p) :: (runP [] r).1, (runP [] r).2)
  | pend, (p, false) :: r => runP (pend ++ p) r
theorem run_pcs : ∀ (l cur pend : List Int), runP pend (pcs cur l) = spl (pend ++ cur) l
  | [], cur, pend => by simp [pcs, runP, spl]
  | c :: r, cur, pend => by
    rw [pcs, spl]
    split
    · rw [runP, run_pcs r [] []]; simp
    · rw [run_pcs r (cur ++ [c]) pend, List.append_assoc]
theorem run_snoc : ∀ (ps : List (List Int × Bool)) (pend : List Int) (p : List Int) (e : Bool),
    runP pend (ps ++ [(p, e)]) = if e then ((runP pend ps).1 ++ [(runP pend ps).2 ++ p], []) else ((runP pend ps).1, (runP pend ps).2 ++ p)
  | [], pend, p, e => by cases e <;> simp [runP]
  | (q, true) :: r, pend, p, e => by
    rw [List.cons_append, runP, run_snoc r [] p e, runP]; cases e <;> simp
  | (q, false) :: r, pend, p, e => by
    rw [List.cons_append, runP, run_snoc r (pend ++ q) p e, runP]
theorem run_len : ∀ (ps : List (List Int × Bool)) (pend : List Int), (runP pend ps).1.length ≤ ps.length
  | [], pend => by simp [runP]
  | (q, true) :: r, pend => by rw [runP]; have := run_len r []; simp; omega
  | (q, false) :: r, pend => by rw [runP]; have := run_len r (pend ++ q); simp; omega

/-! ### the buffer in memory -/
def bufL (pend : List Int) : List Int := if 65536 < pend.length then [] else pend
theorem bufL_len (pend : List Int) : (bufL pend).length ≤ 65536 := by
  unfold bufL; split
  · simp
  · omega
structure BufAt (W : World) (base bb : Nat) (v : Value) (pend : List Int) : Prop where
  blk : Blk W bb 53 [v, .bool (decide (65536 < pend.length))]
  row : W.ownsRow base 5 1 v (bufL pend).length (nums .u8 (bufL pend))
def cellsL (l : List S54) : List Value := l.flatMap fun x => [.string x.f0, .int .i64 x.f1]
theorem cellsL_snoc (l : List S54) (x : S54) : cellsL (l ++ [x]) = cellsL l ++ [.string x.f0, .int .i64 x.f1] := by simp [cellsL]

/-- What holds within Feed: w is the world in which it began, v0 the buffer's slice then. -/
structure FI (w : World) (base bb : Nat) (v0 : Value) (outs : List S54) (pend : List Int) (W : World) : Prop where
  out : ∃ v, Blk W (w.heap.size + 1) 32 [v] ∧ W.ownsRow w.heap.size 38 2 v outs.length (cellsL outs)
  buf : ∃ v, BufAt W base bb v pend ∧ ∀ k, v.ownBlock = some k → w.heap.size ≤ k ∨ v0.ownBlock = some k
  box : ∃ u, Blk W (w.heap.size + 2) 22 [u]
  r0 : Blk W w.heap.size 26 [.pointer (some ⟨bb, 0, none⟩)]
  fr : Fr (fun i => i = bb ∨ v0.ownBlock = some i) w W
  sz : w.heap.size + 3 ≤ W.heap.size
  low : bb < w.heap.size
/-- A step within a round: what the law's book-keeping asks of it. -/
def Mv (w : World) (bb : Nat) (v0 : Value) (W W' : World) : Prop :=
  KeepsFrom (w.heap.size + 3) W W' ∧ KpT (fun k => (k < w.heap.size ∧ k ≠ bb ∧ v0.ownBlock ≠ some k) ∨ k = w.heap.size + 2) W W'
theorem Mv.trans {w : World} {bb : Nat} {v0 : Value} {X Y Z : World} (h : Mv w bb v0 X Y) (k : Mv w bb v0 Y Z) : Mv w bb v0 X Z := ⟨h.1.trans k.1, h.2.trans k.2⟩
/-- Of a step that turns some blocks of cells alone. -/
theorem Mv.of_fr {w : World} {bb : Nat} {v0 : Value} {W W' : World} {S : Nat → Prop} (hf : Fr S W W') (hsz : w.heap.size + 3 ≤ W.heap.size)
    (hc : ∀ k, S k → k < W.heap.size → ∃ o : Obj, W.heap[k]? = some o ∧ o.isCells = true) (hn : ∀ k, S k → ¬ ((k < w.heap.size ∧ k ≠ bb ∧ v0.ownBlock ≠ some k) ∨ k = w.heap.size + 2)) : Mv w bb v0 W W' := by
  refine ⟨⟨hf.size, fun k o _ hk ho => ?_⟩, ⟨fun k hk => ?_, hf.size⟩⟩
  · have hlt := (Array.getElem?_eq_some_iff.1 hk).1
    rw [hf.block k hlt fun hs => ?_]
    · exact hk
    · obtain ⟨o', h1, h2⟩ := hc k hs hlt
      rw [hk] at h1; cases h1
      rw [ho] at h2; cases h2
  · exact hf.block k (by omega) fun hs => hn k hs hk
theorem blk_cells {W : World} {g : Nat} {T : TypeId} {vs : List Value} (h : Blk W g T vs) : ∃ o : Obj, W.heap[g]? = some o ∧ o.isCells = true := ⟨_, h, rfl⟩
theorem row_blk {W : World} {base : Nat} {e : TypeId} {size n : Nat} {v : Value} {xs : List Value} (h : W.ownsRow base e size v n xs) {k : Nat} (hk : v.ownBlock = some k) : ∃ vs, Blk W k e vs := by
  rcases h.2 with ⟨rfl, _⟩ | ⟨g, cap, cur, rfl, _, hh, _⟩
  · simp [Value.ownBlock] at hk
  · obtain rfl : g = k := by simpa [Value.ownBlock] using hk
    exact ⟨cur.toList, by unfold Blk; simpa using hh⟩
theorem blk_type {w : World} {g : Nat} {T T' : TypeId} {vs vs' : List Value} (h : Blk w g T vs) (h' : Blk w g T' vs') : T = T' := by
  have e := h.symm.trans h'
  injection e with e
  injection e
theorem blk_ne {w : World} {x y : Nat} {T T' : TypeId} {vs vs' : List Value} (p : Blk w x T vs) (q : Blk w y T' vs') (hne : T ≠ T') : x ≠ y := fun e => by subst e; exact hne (blk_type p q)
theorem row_fr {w w1 : World} {base : Nat} {e : TypeId} {size n : Nat} {v : Value} {xs : List Value} {S : Nat → Prop} (h : w.ownsRow base e size v n xs) (hf : Fr S w w1) (hS : ∀ k, v.ownBlock = some k → ¬ S k) : w1.ownsRow base e size v n xs := by
  refine ⟨h.1, ?_⟩
  rcases h.2 with ⟨rfl, h0⟩ | ⟨g, cap, cur, rfl, hg, hh, h2⟩
  · exact .inl ⟨rfl, h0⟩
  · refine .inr ⟨g, cap, cur, rfl, hg, ?_, h2⟩
    rw [hf.block g (Array.getElem?_eq_some_iff.1 hh).1 (hS g rfl)]; exact hh
theorem FI.fr' {w : World} {base bb : Nat} {v0 : Value} {outs : List S54} {pend : List Int} {W W' : World} (h : FI w base bb v0 outs pend W) (hf : Fr (fun _ => False) W W') : FI w base bb v0 outs pend W' := by
  obtain ⟨v, h1, h2⟩ := h.out
  obtain ⟨u, hb, hu⟩ := h.buf
  obtain ⟨x, hx⟩ := h.box
  exact ⟨⟨v, h1.fr hf id, row_fr h2 hf (fun _ _ => id)⟩, ⟨u, ⟨hb.blk.fr hf id, row_fr hb.row hf (fun _ _ => id)⟩, hu⟩, ⟨x, hx.fr hf id⟩, h.r0.fr hf id, h.fr.trans hf (fun _ _ h => h.elim), Nat.le_trans h.sz hf.size, h.low⟩
/-- The buffer is set anew. -/
theorem FI.set {w : World} {base bb : Nat} {v0 : Value} {outs : List S54} {pend pend' : List Int} {W W' : World} (h : FI w base bb v0 outs pend W) {S : Nat → Prop} (hf : Fr S W W') (hS : ∀ k, S k → k = bb ∨ (∃ vs, Blk W k 5 vs) ∧ (w.heap.size ≤ k ∨ v0.ownBlock = some k))
    {v : Value} (hb : BufAt W' base bb v pend') (hv : ∀ k, v.ownBlock = some k → w.heap.size ≤ k ∨ v0.ownBlock = some k) : FI w base bb v0 outs pend' W' ∧ Mv w bb v0 W W' := by
  obtain ⟨y, h1, h2⟩ := h.out
  obtain ⟨x, hx⟩ := h.box
  have hsz := h.sz
  have hlow := h.low
  obtain ⟨u0, hbu, _⟩ := h.buf
  have n1 : ¬ S (w.heap.size + 1) := fun hs => by
    rcases hS _ hs with e | ⟨⟨vs, q⟩, _⟩
    · omega
    · exact absurd (blk_type q h1) (by decide)
  have n2 : ¬ S (w.heap.size + 2) := fun hs => by
    rcases hS _ hs with e | ⟨⟨vs, q⟩, _⟩
    · omega
    · exact absurd (blk_type q hx) (by decide)
  have n3 : ¬ S w.heap.size := fun hs => by
    rcases hS _ hs with e | ⟨⟨vs, q⟩, _⟩
    · omega
    · exact absurd (blk_type q h.r0) (by decide)
  have n4 : ∀ k, y.ownBlock = some k → ¬ S k := fun k hk hs => by
    obtain ⟨vs', q'⟩ := row_blk h2 hk
    rcases hS _ hs with e | ⟨⟨vs, q⟩, _⟩
    · subst e; exact absurd (blk_type q' hbu.blk) (by decide)
    · exact absurd (blk_type q q') (by decide)
  refine ⟨⟨⟨y, h1.fr hf n1, row_fr h2 hf n4⟩, ⟨v, hb, hv⟩, ⟨x, hx.fr hf n2⟩, h.r0.fr hf n3, h.fr.trans hf (fun i hi hs => ?_), Nat.le_trans h.sz hf.size, h.low⟩, Mv.of_fr hf h.sz (fun k hs _ => ?_) (fun k hs hk => ?_)⟩
  · rcases hS _ hs with e | ⟨_, e | e⟩
    · exact .inl e
    · omega
    · exact .inr e
  · rcases hS _ hs with e | ⟨⟨vs, q⟩, _⟩
    · subst e; exact blk_cells hbu.blk
    · exact blk_cells q
  · rcases hS _ hs with e | ⟨_, e | e⟩
    · subst e; omega
    · rcases hk with hk | hk
      · omega
      · subst hk; exact n2 hs
    · rcases hk with hk | hk
      · exact hk.2.2 e
      · subst hk; exact n2 hs
/-- A line is told. -/
theorem FI.line {w : World} {base bb : Nat} {v0 : Value} {outs : List S54} {pend : List Int} {W W' : World} (h : FI w base bb v0 outs pend W) {v v' : Value} (hv : Blk W (w.heap.size + 1) 32 [v]) (hrow : W.ownsRow w.heap.size 38 2 v outs.length (cellsL outs))
    {S : Nat → Prop} (hf : Fr S W W') (hS : ∀ k, S k → k = w.heap.size + 1 ∨ v.ownBlock = some k) (x : S54) (hb : Blk W' (w.heap.size + 1) 32 [v']) (hr' : W'.ownsRow w.heap.size 38 2 v' (outs.length + 1) (cellsL outs ++ [.string x.f0, .int .i64 x.f1])) :
    FI w base bb v0 (outs ++ [x]) pend W' ∧ Mv w bb v0 W W' := by
  obtain ⟨y, hx⟩ := h.box
  obtain ⟨u, hbu, hu⟩ := h.buf
  have hsz := h.sz
  have hlow := h.low
  have n1 : ¬ S bb := fun hs => by
    rcases hS _ hs with e | e
    · omega
    · obtain ⟨vs, q⟩ := row_blk hrow e; exact absurd (blk_type q hbu.blk) (by decide)
  have n2 : ¬ S (w.heap.size + 2) := fun hs => by
    rcases hS _ hs with e | e
    · omega
    · obtain ⟨vs, q⟩ := row_blk hrow e; exact absurd (blk_type q hx) (by decide)
  have n3 : ¬ S w.heap.size := fun hs => by
    rcases hS _ hs with e | e
    · omega
    · obtain ⟨vs, q⟩ := row_blk hrow e; exact absurd (blk_type q h.r0) (by decide)
  have n4 : ∀ k, u.ownBlock = some k → ¬ S k := fun k hk hs => by
    obtain ⟨vs', q'⟩ := row_blk hbu.row hk
    rcases hS _ hs with e | e
    · subst e; exact absurd (blk_type q' hv) (by decide)
    · obtain ⟨vs, q⟩ := row_blk hrow e; exact absurd (blk_type q q') (by decide)
  have hge : ∀ k, v.ownBlock = some k → w.heap.size ≤ k := fun k hk => by
    rcases hrow.2 with ⟨rfl, _⟩ | ⟨g, cap, cur, rfl, hg, _⟩
    · simp [Value.ownBlock] at hk
    · have : g = k := by simpa [Value.ownBlock] using hk
      omega
  refine ⟨⟨⟨v', hb, by rw [cellsL_snoc, List.length_append]; exact hr'⟩, ⟨u, ⟨hbu.blk.fr hf n1, row_fr hbu.row hf n4⟩, hu⟩, ⟨y, hx.fr hf n2⟩, h.r0.fr hf n3, h.fr.trans hf (fun i hi hs => ?_), Nat.le_trans h.sz hf.size, h.low⟩, Mv.of_fr hf h.sz (fun k hs _ => ?_) (fun k hs hk => ?_)⟩
  · rcases hS _ hs with e | e
    · omega
    · have := hge _ e; omega
  · rcases hS _ hs with e | e
    · subst e; exact blk_cells hv
    · obtain ⟨vs, q⟩ := row_blk hrow e; exact blk_cells q
  · rcases hk with hk | hk
    · rcases hS _ hs with e | e
      · omega
      · have := hge _ e; omega
    · subst hk; exact n2 hs
end Go.Proofs.YtelhkbanohhjhaaDoor.Tx
