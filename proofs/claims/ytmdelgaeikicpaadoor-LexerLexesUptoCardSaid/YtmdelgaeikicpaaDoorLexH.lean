/- Contract of package lexer's Lex: the tokens of a text, or its first error. -/
import Derived.Test.YtmdelgaeikicpaaDoorLexG
import Derived.Shelf.RegionOpen
namespace Go.Proofs.YtmdelgaeikicpaaDoor.Lx
open Go.RowKit Go.Shelf
set_option linter.unusedVariables false
set_option linter.unusedSimpArgs false

theorem items_len : ∀ (d : Nat) (l : Bs) (p : Nat), (items d l p).length ≤ d
  | 0, l, p => by simp [items]
  | d + 1, [], p => by simp [items]
  | d + 1, c :: r, p => by
    simp only [items]
    split
    · have := items_len d r (p + 1); omega
    · split
      · simp
      · split
        · simp
        · rename_i k t n _
          have := items_len d ((c :: r).drop n) (p + n)
          simp only [List.length_cons]; omega
theorem itemsOf_len (s : ByteArray) : (itemsOf (bs s)).length ≤ s.size := by
  have := items_len (bs s).length (bs s) 0
  rw [bs_len] at this; unfold itemsOf; rw [bs_len]; exact this

def cellsI (l : List Item) : List Value := l.flatMap fun x => [.int .i64 x.kind, .int .i64 x.pos, .string ⟨x.text.toArray⟩]
theorem cellsI_snoc (l : List Item) (x : Item) : cellsI (l ++ [x]) = cellsI l ++ [.int .i64 x.kind, .int .i64 x.pos, .string ⟨x.text.toArray⟩] := by simp [cellsI]

theorem iter_stops (n : Nat) (hn : 1 ≤ n) (bx : Nat) (s : ByteArray) (hs : s.size ≤ 1048576) (w : World) (hb : Blk w bx 9 [.string s]) :
    SeqStopsK Fence.wide n Tryd.prog 31 #[.pointer (some ⟨bx, 0, none⟩)] encs (Kp bx) (fun ys => ys = itemsOf (bs s)) (fun pre => pre <+: itemsOf (bs s)) (itemsOf (bs s)).length w := fun l J Jx W hW hJ _ hY h0 =>
  iter_in n hn l bx s hs J Jx W (hb.below hW hb.lt) hJ hY h0

theorem tokens_in (s : ByteArray) (w : World) (n : Nat) :
    CallsIn Fence.wide n Tryd.prog 19 #[.string s] w fun e w' => e = .returned (.func (.func 31) #[] #[.pointer (some ⟨w.heap.size, 0, none⟩)]) ∧ w' = w.alloc (.cells #[.string s] 9) := by
  refine callsIn_of_wp Tryd.func19 rfl trivial ?_ rfl
  simp only [Tryd.ntmps19, List.size_toArray, List.length_cons, List.length_nil, Nat.reduceAdd, Nat.reduceSub, Array.replicate_succ, Array.replicate_zero, List.push_toArray, List.append_toArray, List.nil_append, List.cons_append]
  gi_wp2
  go_ret
  exact ⟨rfl, rfl⟩

/-- Between two rounds. -/
structure LI (s : ByteArray) (w : World) (B : Nat) (pre : List Item) (W : World) : Prop where
  out : ∃ v, Blk W (B + 3) 22 [v] ∧ W.ownsRow B 33 3 v pre.length (cellsI pre)
  box : Blk W (B + 4) 9 [.string s]
  r0 : Blk W B 22 [.slice none 0 0]
  r1 : Blk W (B + 1) 3 [.int .i64 0]
  r2 : Blk W (B + 2) 23 [.int .i64 0]
  good : ∀ x ∈ pre, x.err = 0
  bel : Below B w W
  sz : B + 5 ≤ W.heap.size
/-- Where a round has returned. -/
structure LX (w : World) (B : Nat) (c : Code) (pre : List Item) (W : World) : Prop where
  ret : c = .ret
  x : ∃ p x, pre = p ++ [x] ∧ (∀ y ∈ p, y.err = 0) ∧ x.err ≠ 0 ∧ Blk W (B + 1) 3 [.int .i64 x.pos] ∧ Blk W (B + 2) 23 [.int .i64 x.err]
  r0 : Blk W B 22 [.slice none 0 0]
  bel : Below B w W
  sz : B + 5 ≤ W.heap.size
theorem Blk.kept {W W' : World} {g : Nat} {T : TypeId} {vs : List Value} {row : Option Nat} (h : Blk W g T vs) (hg : W.grownBy W' row) (hr : ∀ r, row = some r → ∃ o : Obj, W.heap[r]? = some o ∧ o.isCells = false) : Blk W' g T vs := by
  refine (hg.block g h.lt fun e => ?_).trans h
  obtain ⟨o, ho, hc⟩ := hr g e.symm
  rw [show W.heap[g]? = _ from h] at ho
  cases ho; simp [Obj.isCells] at hc
theorem own_kept {W W' : World} {base : Nat} {e : TypeId} {size n : Nat} {v : Value} {xs : List Value} {row : Option Nat} (h : W.ownsRow base e size v n xs) (hg : W.grownBy W' row) (hr : ∀ r, row = some r → ∃ o : Obj, W.heap[r]? = some o ∧ o.isCells = false) : W'.ownsRow base e size v n xs := by
  refine ⟨h.1, ?_⟩
  rcases h.2 with h2 | ⟨g, cap, cur, rfl, hb, hh, h3⟩
  · exact .inl h2
  · refine .inr ⟨g, cap, cur, rfl, hb, ?_, h3⟩
    refine (hg.block g (Array.getElem?_eq_some_iff.1 hh).1 fun e => ?_).trans hh
    obtain ⟨o, ho, hc⟩ := hr g e.symm
    rw [hh] at ho
    cases ho; simp [Obj.isCells] at hc
theorem below_kept {B : Nat} {w W W' : World} {row : Option Nat} (h : Below B w W) (hB : B ≤ W.heap.size) (hg : W.grownBy W' row) (hr : ∀ r, row = some r → B ≤ r) : Below B w W' := h.grown hg hB hr
theorem LI.own {s : ByteArray} {w : World} {B : Nat} : OwnFrom (B + 5) (LI s w B) := fun pre W W' row h hg hr => by
  have hr2 : ∀ r, row = some r → ∃ o : Obj, W.heap[r]? = some o ∧ o.isCells = false := fun r e => (hr r e).2
  obtain ⟨v, h1, h2⟩ := h.out
  exact ⟨⟨v, Blk.kept h1 hg hr2, own_kept h2 hg hr2⟩, Blk.kept h.box hg hr2, Blk.kept h.r0 hg hr2, Blk.kept h.r1 hg hr2, Blk.kept h.r2 hg hr2, h.good, below_kept h.bel (by have := h.sz; omega) hg (fun r e => by have := (hr r e).1; omega), Nat.le_trans h.sz hg.size⟩
theorem LX.own {w : World} {B : Nat} (c : Code) : OwnFrom (B + 5) (LX w B c) := fun pre W W' row h hg hr => by
  have hr2 : ∀ r, row = some r → ∃ o : Obj, W.heap[r]? = some o ∧ o.isCells = false := fun r e => (hr r e).2
  obtain ⟨p, x, h1, h2, h3, h4, h5⟩ := h.x
  exact ⟨h.ret, ⟨p, x, h1, h2, h3, Blk.kept h4 hg hr2, Blk.kept h5 hg hr2⟩, Blk.kept h.r0 hg hr2, below_kept h.bel (by have := h.sz; omega) hg (fun r e => by have := (hr r e).1; omega), Nat.le_trans h.sz hg.size⟩

theorem LX.make {s : ByteArray} {w : World} {B : Nat} {pre : List Item} {x : Item} {W : World} (hI : LI s w B pre W) (he : x.err ≠ 0) (C : Nat) :
    KeepsFrom C W (((W.setCell ⟨B, 0, none⟩ (.slice none 0 0)).setCell ⟨B + 1, 0, none⟩ (.int .i64 x.pos)).setCell ⟨B + 2, 0, none⟩ (.int .i64 x.err)).drew ∧
    LX w B .ret (pre ++ [x]) (((W.setCell ⟨B, 0, none⟩ (.slice none 0 0)).setCell ⟨B + 1, 0, none⟩ (.int .i64 x.pos)).setCell ⟨B + 2, 0, none⟩ (.int .i64 x.err)).drew := by
  refine ⟨((((KeepsOthers.setCell W _ _).trans (KeepsOthers.setCell _ _ _)).trans (KeepsOthers.setCell _ _ _)).trans (KeepsOthers.drew _)).from _, ⟨rfl, ⟨pre, x, rfl, hI.good, he, ?_, ?_⟩, ?_, ?_, ?_⟩⟩
  · exact (((hI.r1.other ⟨B, 0, none⟩ _ (by show B ≠ B + 1; omega)).set 0 (.int .i64 x.pos)).other ⟨B + 2, 0, none⟩ _ (by show B + 2 ≠ B + 1; omega)).drew
  · exact (((hI.r2.other ⟨B, 0, none⟩ _ (by show B ≠ B + 2; omega)).other ⟨B + 1, 0, none⟩ _ (by show B + 1 ≠ B + 2; omega)).set 0 (.int .i64 x.err)).drew
  · exact (((hI.r0.set 0 (.slice none 0 0)).other ⟨B + 1, 0, none⟩ _ (by show B + 1 ≠ B; omega)).other ⟨B + 2, 0, none⟩ _ (by show B + 2 ≠ B; omega)).drew
  · have h := ((hI.bel.setCell (p := ⟨B, 0, none⟩) (Nat.le_refl _) (.slice none 0 0)).setCell (p := ⟨B + 1, 0, none⟩) (by show B ≤ B + 1; omega) (.int .i64 x.pos)).setCell (p := ⟨B + 2, 0, none⟩) (by show B ≤ B + 2; omega) (.int .i64 x.err)
    exact ⟨h.os, h.tape, h.output, h.size, h.block⟩
  · have := hI.sz; simpa [World.setCell, World.drew] using this
theorem Blk.append {W w1 : World} {g : Nat} {t e : TypeId} {u v : Value} {n₀ size k : Nat} {xs : List Value} {o : Obj} (h : Blk W g t [u]) (hte : t ≠ e) (hrow : W.ownsRow n₀ e size v k xs) (hgr : (W.alloc o).grownBy w1 v.ownBlock) : Blk w1 g t [u] :=
  Boxed.kept (Boxed.alloc (show Boxed W g t u from h) o) hgr (Boxed.not_row (show Boxed W g t u from h) hte hrow)
theorem LI.push {s : ByteArray} {w : World} {B : Nat} {pre : List Item} {x : Item} {W w1 : World} {v v' : Value} {o : Obj} (hI : LI s w B pre W) (he : x.err = 0) (C : Nat) (hbv : Blk W (B + 3) 22 [v]) (hrow : W.ownsRow B 33 3 v pre.length (cellsI pre))
    (hgr : (W.alloc o).grownBy w1 v.ownBlock) (hown : w1.ownsRow B 33 3 v' (pre.length + 1) (cellsI pre ++ [.int .i64 x.kind, .int .i64 x.pos, .string ⟨x.text.toArray⟩])) :
    Blk w1 (B + 3) 22 [v] ∧ KeepsFrom C W (w1.setCell ⟨B + 3, 0, none⟩ v') ∧ Kp (B + 4) W (w1.setCell ⟨B + 3, 0, none⟩ v') ∧ LI s w B (pre ++ [x]) (w1.setCell ⟨B + 3, 0, none⟩ v') := by
  have hB : B ≤ W.heap.size := by have := hI.sz; omega
  obtain ⟨a1, a2, a3, a4, a5⟩ := Boxed.appended (show Boxed W (B + 3) 22 v from hbv) (by decide) hrow hB (by omega) hown hgr
  have ne : ∀ k, k ≠ B + 3 → (⟨B + 3, 0, none⟩ : Addr).block ≠ k := fun k h => fun e => h e.symm
  have bx := (Blk.append hI.box (by decide) hrow hgr).other ⟨B + 3, 0, none⟩ v' (ne _ (by omega))
  refine ⟨a1, a4.from _, ⟨bx.trans (show W.heap[B + 4]? = _ from hI.box).symm, a5.size⟩, ⟨⟨v', a2, ?_⟩, bx, ?_, ?_, ?_, ?_, ?_, ?_⟩⟩
  · rw [cellsI_snoc, List.length_append]; exact a3
  · exact (Blk.append hI.r0 (by decide) hrow hgr).other ⟨B + 3, 0, none⟩ v' (ne _ (by omega))
  · exact (Blk.append hI.r1 (by decide) hrow hgr).other ⟨B + 3, 0, none⟩ v' (ne _ (by omega))
  · exact (Blk.append hI.r2 (by decide) hrow hgr).other ⟨B + 3, 0, none⟩ v' (ne _ (by omega))
  · intro y hy
    rcases List.mem_append.1 hy with h | h
    · exact hI.good y h
    · simp at h; rw [h]; exact he
  · exact hI.bel.trans a5
  · exact Nat.le_trans hI.sz a5.size
theorem own_shape {W : World} {base k : Nat} {v : Value} {xs : List Value} (h : W.ownsRow base 33 3 v (k + 1) xs) : ∃ g cap, v = .slice (some ⟨g, 0, none⟩) (k + 1) cap := by
  rcases h.2 with ⟨_, h0⟩ | ⟨g, cap, cur, rfl, _⟩
  · omega
  · exact ⟨g, cap, rfl⟩

def LA (s : ByteArray) (B : Nat) (x : Item) (a : Act) (W : World) : Prop :=
  ∃ bt, B + 5 ≤ bt ∧ a = { tmps := #[.string s, undef, .pointer (some ⟨B, 0, none⟩), .pointer (some ⟨B + 1, 0, none⟩), .pointer (some ⟨B + 2, 0, none⟩), .pointer (some ⟨B + 3, 0, none⟩), .pointer (some ⟨bt, 0, none⟩), .int .i64 x.err, .string s,
    .func (.func 31) #[] #[.pointer (some ⟨B + 4, 0, none⟩)], .agg #[.int .i64 x.kind, .int .i64 x.pos, .string ⟨x.text.toArray⟩], .int .i64 x.err, undef, undef, undef, undef, undef, undef, undef, undef, undef, undef], defers := [] } ∧
    Blk W bt 33 [.int .i64 x.kind, .int .i64 x.pos, .string ⟨x.text.toArray⟩]
theorem LA.own {s : ByteArray} {B C : Nat} (x : Item) (a : Act) : OwnFrom C (fun (_ : Unit) W => LA s B x a W) := fun _ W W' row h hg hr => by
  obtain ⟨bt, h1, h2, h3⟩ := h
  exact ⟨bt, h1, h2, Blk.kept h3 hg fun r e => (hr r e).2⟩
theorem Kp.trans {bx : Nat} {X Y Z : World} (h : Kp bx X Y) (k : Kp bx Y Z) : Kp bx X Z := ⟨k.1.trans h.1, Nat.le_trans h.2 k.2⟩
theorem Kp.put {bx : Nat} (W : World) (l : Nat) (o' : Obj) (h : bx < l) : Kp bx W (W.putObj l o') := by
  have hg := grownBy_putObj' W l o'
  refine ⟨?_, hg.size⟩
  by_cases hb : bx < W.heap.size
  · exact hg.block bx hb (fun e => by cases e; omega)
  · simp only [World.putObj, Array.getElem?_setIfInBounds]
    rw [if_neg (by omega)]

/-- What the call comes to. -/
def LexPost (s : ByteArray) (w : World) (e : Ending) (w' : World) : Prop :=
  ∃ v, e = .returned (.tuple #[v, .int .i64 (lexB (bs s)).2.1, .int .i64 (lexB (bs s)).2.2]) ∧ Below w.heap.size w w' ∧
    w'.ownsRow w.heap.size 33 3 v (lexB (bs s)).1.length ((lexB (bs s)).1.flatMap fun x => [.int .i64 x.kind, .int .i64 x.pos, .string ⟨x.text.toArray⟩])

theorem info33 : (Tryd.prog.info? 33).map (fun i => (i.zero, i.size, i.bytes)) = some (some (.agg #[.int .i64 0, .int .i64 0, .string ⟨#[]⟩]), 3, 32) := by kernel_rfl
theorem own_slice {W : World} {base k : Nat} {v : Value} {xs : List Value} (h : W.ownsRow base 33 3 v k xs) : ∃ a n c, v = .slice a n c := by
  rcases h.2 with ⟨rfl, h0⟩ | ⟨g, cap, cur, rfl, _⟩ <;> exact ⟨_, _, _, rfl⟩
theorem put_kept {W : World} {D g : Nat} {T : TypeId} {vs : List Value} {o : Obj} (h : Blk W g T vs) (hK : W.heap[D]? = some (.deferred (some []))) : Blk (W.putObj D o) g T vs :=
  Blk.kept h (grownBy_putObj' W D o) (fun r e => by cases e; exact ⟨_, hK, rfl⟩)
theorem own_other {W : World} {g : Nat} {t e : TypeId} {u v : Value} {n₀ size k : Nat} {xs : List Value} (h : Blk W g t [u]) (hte : t ≠ e) (hrow : W.ownsRow n₀ e size v k xs) (x : Value) : (W.setCell ⟨g, 0, none⟩ x).ownsRow n₀ e size v k xs :=
  hrow.kept (grownBy_setCell' W g x) (.inr (Boxed.not_row (show Boxed W g t u from h) hte hrow).symm)
theorem fold_good : ∀ (l : List Item) (out : List Tok), (∀ x ∈ l, x.err = 0) → folded l out = (out ++ l.map fun x => ⟨x.kind, x.pos, x.text⟩, 0, 0)
  | [], out, _ => by simp [folded]
  | x :: r, out, h => by
    rw [folded, if_pos (h x (by simp)), fold_good r _ (fun y hy => h y (by simp [hy]))]; simp
theorem fold_bad (x : Item) (he : x.err ≠ 0) : ∀ (l r : List Item) (out : List Tok), (∀ x ∈ l, x.err = 0) → folded (l ++ x :: r) out = ([], x.pos, x.err)
  | [], r, out, _ => by simp [folded, he]
  | y :: l, r, out, h => by
    simp only [List.cons_append]
    rw [folded, if_pos (h y (by simp)), fold_bad x he l r _ (fun z hz => h z (by simp [hz]))]
theorem lex_ret {s : ByteArray} {w W : World} {B D : Nat} {v : Value} {p e : Int} {tm : Array Value} (hB : B = w.heap.size) (hK : W.heap[D]? = some (.deferred (some []))) (hD : B ≤ D)
    (k0 : Blk W B 22 [v]) (k1 : Blk W (B + 1) 3 [.int .i64 p]) (k2 : Blk W (B + 2) 23 [.int .i64 e])
    (t2 : tm[2]? = some (.pointer (some ⟨B, 0, none⟩))) (t3 : tm[3]? = some (.pointer (some ⟨B + 1, 0, none⟩))) (t4 : tm[4]? = some (.pointer (some ⟨B + 2, 0, none⟩)))
    (hb : Below B w W) (hown : W.ownsRow B 33 3 v (lexB (bs s)).1.length ((lexB (bs s)).1.flatMap fun x => [.int .i64 x.kind, .int .i64 x.pos, .string ⟨x.text.toArray⟩])) (hv : ∃ a n c, v = .slice a n c)
    (hp : (lexB (bs s)).2.1 = p) (he : (lexB (bs s)).2.2 = e) :
    ∃ u, (results Tryd.f7 tm).run Tryd.prog (W.putObj D (.deferred none)) = .ok u (W.putObj D (.deferred none)) ∧ LexPost s w (.returned u) (W.putObj D (.deferred none)) := by
  have c0 := (put_kept (o := .deferred none) k0 hK).cell 0
  have c1 := (put_kept (o := .deferred none) k1 hK).cell 0
  have c2 := (put_kept (o := .deferred none) k2 hK).cell 0
  simp only [List.getElem?_cons_zero] at c0 c1 c2
  have hg := grownBy_putObj' W D (.deferred none)
  have hr : ∀ r, some D = some r → ∃ o : Obj, W.heap[r]? = some o ∧ o.isCells = false := fun r e => by cases e; exact ⟨_, hK, rfl⟩
  refine ⟨.tuple #[v, .int .i64 p, .int .i64 e], ?_, v, by rw [hp, he], ?_, ?_⟩
  · obtain ⟨a, n, c, rfl⟩ := hv
    simp [results, Tryd.f7, go_sem, c0, c1, c2, t2, t3, t4]
  · rw [← hB]; exact below_kept hb (Nat.le_of_lt k0.lt) hg (fun r e => by cases e; exact hD)
  · rw [← hB]; exact own_kept hown hg hr
attribute [local go_sem] Oper.semAt_some
set_option maxRecDepth 100000 in
set_option maxHeartbeats 2000000 in
theorem lex_in (s : ByteArray) (hs : s.size ≤ 1048576) (w : World) :
    CallsIn Fence.wide 3 Tryd.prog 7 #[.string s] w (LexPost s w) := by
  refine callsIn_of_wp_marks Tryd.func7 rfl trivial ?_ rfl
  simp only [Tryd.ntmps7, List.size_toArray, List.length_cons, List.length_nil, Nat.reduceAdd, Nat.reduceSub, Array.replicate_succ, Array.replicate_zero, List.push_toArray, List.append_toArray, List.nil_append, List.cons_append]
  gi_wp2_with fail
  refine ⟨trivial, (tokens_in _ _ _).mono ?_⟩
  rintro e w' ⟨rfl, rfl⟩
  gi_wp2_with fail
  obtain ⟨B, hB⟩ : ∃ B, B = w.heap.size := ⟨_, rfl⟩
  obtain ⟨w5, hw5⟩ : ∃ w5, w5 = ((((w.alloc (.cells #[.slice none 0 0] 22)).alloc (.cells #[.int .i64 0] 3)).alloc (.cells #[.int .i64 0] 23)).alloc (.cells #[.slice none 0 0] 22)).alloc (.cells #[.string s] 9) := ⟨_, rfl⟩
  have s5 : w5.heap.size = B + 5 := by rw [hw5, hB]; simp
  have b0 : Blk w5 B 22 [.slice none 0 0] := by rw [hw5]; exact ((((Blk.new' _ _ _ [_] (by simp [hB])).alloc _).alloc _).alloc _).alloc _
  have b1 : Blk w5 (B + 1) 3 [.int .i64 0] := by rw [hw5]; exact (((Blk.new' _ _ _ [_] (by simp [hB])).alloc _).alloc _).alloc _
  have b2 : Blk w5 (B + 2) 23 [.int .i64 0] := by rw [hw5]; exact ((Blk.new' _ _ _ [_] (by simp [hB])).alloc _).alloc _
  have b3 : Blk w5 (B + 3) 22 [.slice none 0 0] := by rw [hw5]; exact (Blk.new' _ _ _ [_] (by simp [hB])).alloc _
  have b4 : Blk w5 (B + 4) 9 [.string s] := by rw [hw5]; exact Blk.new' _ _ _ [_] (by simp [hB])
  have hbel : Below B w w5 := by
    rw [hw5, hB]; exact (((((Below.refl _ w).alloc (Nat.le_refl _) _).alloc (by simp only [World.size_alloc]; omega) _).alloc (by simp only [World.size_alloc]; omega) _).alloc (by simp only [World.size_alloc]; omega) _).alloc (by simp only [World.size_alloc]; omega) _
  rw [← hw5]
  rw [← hB]
  have HW5 := Lib.hid hw5
  have HB := Lib.hid hB
  clear hw5 hB
  rw [show B + 1 + 1 + 1 + 1 = B + 4 from rfl, show B + 1 + 1 + 1 = B + 3 from rfl, show B + 1 + 1 = B + 2 from rfl]
  have S5 := Lib.hid s5
  clear s5
  refine wpIn_rangeFunc_ownH rfl (by omega) (gf := 31) (lb := #[.pointer (some ⟨B + 4, 0, none⟩)]) rfl trivial (enters_of Tryd.func31 (by kernel_rfl) rfl) (iter_stops (3 - 1) (by omega) (B + 4) s hs w5 b4)
    Kp.trans (fun W l o o' hl _ _ _ => Kp.put W l o' (by rw [S5.out] at hl; omega)) (Below.refl _ _) (fun _ => rfl) (LI s w B) (LX w B) (by rw [S5.out]; exact LI.own) (fun c => by rw [S5.out]; exact LX.own c)
    ⟨⟨_, b3, ⟨rfl, .inl ⟨rfl, rfl⟩⟩⟩, b4, b0, b1, b2, by simp, hbel, by rw [S5.out]; exact Nat.le_refl _⟩ (LA s B) (fun x a => LA.own x a) ?assign ?body ?done ?stop
  case assign =>
    intro l pre x W K hI hK
    have HK := Lib.hid hK
    have HI := Lib.hid hI
    clear hK hI
    gi_wp2
    have hsz := HI.out.sz
    refine HK.out _ _ ((KeepsOthers.alloc W _).from _) ⟨?_, by simp⟩ (LI.own.alloc _ HI.out) ⟨W.heap.size, hsz, rfl, Blk.new' _ _ _ [_, _, _] rfl⟩
    simp only [World.alloc]; rw [Array.getElem?_push, if_neg (by omega)]
  case body =>
    intro l pre x a' W hl hrec hI hA hlen
    obtain ⟨bt, hbt, rfl, hA⟩ := hA
    have c0 := hA.cell 0
    have c1 := hA.cell 1
    have c2 := hA.cell 2
    simp only [List.getElem?_cons_zero, List.getElem?_cons_succ] at c0 c1 c2
    by_cases he : x.err = 0
    · have hee : (x.err != 0) = false := by simp [he]
      have hee2 : (x.err == 0) = true := by simp [he]
      have HE := Lib.hid he
      obtain ⟨v, hbv, hown⟩ := hI.out
      have cv := hbv.cell 0
      have fv := hbv.free 0
      simp only [List.getElem?_cons_zero] at cv
      have HI := Lib.hid hI
      have HLEN := Lib.hid (show pre.length + 1 ≤ 1048576 by have := itemsOf_len s; omega)
      clear he hlen hI hrec
      obtain ⟨i0, hi, hz0, hz1, hz2⟩ := info_parts info33
      have hsz := HI.out.sz
      gi_wp2_with (gi_at_builtin; refine wpListIn_append_own _ rfl _ _ 22 rfl B 33 i0 (.agg #[.int .i64 0, .int .i64 0, .string ⟨#[]⟩]) 3 32 Tryd.underlying22 hi hz0 hz1 hz2 rfl (by decide) _ _ _ rfl (hown.alloc _) ⟨W.heap.size, 0, none⟩ 1 1 [.int .i64 x.kind, .int .i64 x.pos, .string ⟨x.text.toArray⟩] rfl rfl ?c1 ?c2 ?c3 ?c4 ?c5 ?_)
      case c1 =>
        intro j u hj
        match j, hj with
        | 0, hj => simp at hj; subst hj; simp [Addr.add]
        | 1, hj => simp at hj; subst hj; simp [Addr.add]
        | 2, hj => simp at hj; subst hj; simp [Addr.add]
      case c2 => intro u hu; simp at hu; rcases hu with rfl | rfl | rfl <;> rfl
      case c3 => have := HLEN.out; unfold maxLen; omega
      case c4 => have := HLEN.out; omega
      case c5 => simp; omega
      · intro v' w1 hown' hgrow _
        obtain ⟨g', cap', rfl⟩ := own_shape hown'
        obtain ⟨p1, p2, p3, p4⟩ := HI.out.push HE.out w5.heap.size hbv hown hgrow hown'
        have q1 := p1.cell 0
        have q2 := p1.free 0
        simp only [List.getElem?_cons_zero] at q1
        have P := Lib.hid (And.intro p2 (And.intro p3 p4))
        clear hgrow hown' hown p1 p2 p3 p4 cv fv hbv
        gi_wp2
        exact P.out
    · have hee : (x.err != 0) = true := by rw [bne_iff_ne]; exact he
      have hee2 : (x.err == 0) = false := by rw [beq_eq_false_iff_ne]; exact he
      have HE := Lib.hid he
      have HI := Lib.hid hI
      have d0 := hI.r0.cell 0
      have d1 := hI.r1.cell 0
      have d2 := hI.r2.cell 0
      have f0 := hI.r0.free 0
      have f1 := hI.r1.free 0
      have f2 := hI.r2.free 0
      simp only [List.getElem?_cons_zero] at d0 d1 d2
      have mixed : Tryd.prog.follows .mixedOrders = true := by kernel_rfl
      clear he hlen hI hrec
      gi_wp2_with fail
      gi_region_with_o (fail)
      all_goals
        gi_wp2
        exact LX.make HI.out HE.out _
  case done =>
    rintro D xs W hD rfl hI hK
    obtain ⟨v, hbv, hown⟩ := hI.out
    obtain ⟨va, vn, vc, rfl⟩ := own_slice hown
    have hv : ∃ a n c, Value.slice va vn vc = .slice a n c := ⟨_, _, _, rfl⟩
    have cv := hbv.cell 0
    have d0 := hI.r0.cell 0
    have d1 := hI.r1.cell 0
    have d2 := hI.r2.cell 0
    have f0 := hI.r0.free 0
    have f1 := hI.r1.free 0
    have f2 := hI.r2.free 0
    simp only [List.getElem?_cons_zero] at cv d0 d1 d2
    have HI := Lib.hid hI
    have HK := Lib.hid hK
    have HO := Lib.hid hown
    have HV := Lib.hid hv
    clear hI hK hown hbv hv
    gi_wp2
    have hK' := ((KeepsOthers.setCell W ⟨B, 0, none⟩ (.slice va vn vc)).trans ((KeepsOthers.setCell _ ⟨B + 1, 0, none⟩ (.int .i64 0)).trans (KeepsOthers.setCell _ ⟨B + 2, 0, none⟩ (.int .i64 0)))).same D _ HK.out rfl
    refine ⟨by simp, .inl ⟨_, _, rfl, run_takeDeferred hK', ?_⟩⟩
    have hlex : lexB (bs s) = ((itemsOf (bs s)).map fun x => ⟨x.kind, x.pos, x.text⟩, 0, 0) := by
      unfold lexB; rw [fold_good _ _ HI.out.good]; simp
    refine lex_ret HB.out hK' (by rw [S5.out] at hD; omega) (((HI.out.r0.set 0 _).other ⟨B + 1, 0, none⟩ _ (by show B + 1 ≠ B; omega)).other ⟨B + 2, 0, none⟩ _ (by show B + 2 ≠ B; omega))
      (((HI.out.r1.other ⟨B, 0, none⟩ _ (by show B ≠ B + 1; omega)).set 0 _).other ⟨B + 2, 0, none⟩ _ (by show B + 2 ≠ B + 1; omega))
      (((HI.out.r2.other ⟨B, 0, none⟩ _ (by show B ≠ B + 2; omega)).other ⟨B + 1, 0, none⟩ _ (by show B + 1 ≠ B + 2; omega)).set 0 _) rfl rfl rfl ?_ ?_ HV.out (by rw [hlex]) (by rw [hlex])
    · exact ((HI.out.bel.setCell (p := ⟨B, 0, none⟩) (Nat.le_refl _) _).setCell (p := ⟨B + 1, 0, none⟩) (by show B ≤ B + 1; omega) _).setCell (p := ⟨B + 2, 0, none⟩) (by show B ≤ B + 2; omega) _
    · have n0 := HI.out.r0
      have n1 := HI.out.r1.other ⟨B, 0, none⟩ (.slice va vn vc) (by show B ≠ B + 1; omega)
      have n2 := (HI.out.r2.other ⟨B, 0, none⟩ (.slice va vn vc) (by show B ≠ B + 2; omega)).other ⟨B + 1, 0, none⟩ (.int .i64 0) (by show B + 1 ≠ B + 2; omega)
      have o1 := own_other n0 (by decide) HO.out (.slice va vn vc)
      have o2 := own_other n1 (by decide) o1 (.int .i64 0)
      have o3 := own_other n2 (by decide) o2 (.int .i64 0)
      rw [hlex]
      simp only [List.length_map, List.flatMap_map]
      exact o3
  case stop =>
    rintro D c pre W hD hpre hX hK
    obtain ⟨rfl, ⟨p, x, rfl, hg, he, h1, h2⟩, h0, hb, hsz⟩ := hX
    gi_wp2
    refine ⟨by simp, .inl ⟨_, _, rfl, run_takeDeferred hK, ?_⟩⟩
    obtain ⟨r, hr⟩ := hpre
    have hlex : lexB (bs s) = ([], x.pos, x.err) := by
      unfold lexB; rw [← hr, List.append_assoc]; exact fold_bad x he p r [] hg
    exact lex_ret HB.out hK (by rw [S5.out] at hD; omega) h0 h1 h2 rfl rfl rfl hb (by rw [hlex]; exact ⟨rfl, .inl ⟨rfl, rfl⟩⟩) ⟨_, _, _, rfl⟩ (by rw [hlex]) (by rw [hlex])

/-- Lex: of any text up to 1048576 bytes. -/
theorem lex_any (s : ByteArray) (hs : s.size ≤ 1048576) (w : World) : Calls Tryd.prog 7 #[.string s] w (LexPost s w) := callsIn_wide.1 (lex_in s hs w)
end Go.Proofs.YtmdelgaeikicpaaDoor.Lx
