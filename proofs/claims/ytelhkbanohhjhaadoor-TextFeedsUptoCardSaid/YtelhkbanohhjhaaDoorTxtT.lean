/- A slice of slices of bytes, opened; the law's 'same' on lines that lie in memory; what holds within TextFeeds' loop. -/
import Derived.Test.YtelhkbanohhjhaaDoorTxtR
import Derived.Test.YtelhkbanohhjhaaDoorPsamex1
import Derived.Deep.Matrix
namespace Go.Proofs.YtelhkbanohhjhaaDoor.Tx
open Go.RowKit Go.Shelf Go.Proofs.YtelhkbanohhjhaaDoor.PFeed Go.Proofs.YtelhkbanohhjhaaDoorW.PrintWords
open Go.ChangeShapes Go.WideShapes Go.ChangeAt Go.Deep
set_option linter.unusedVariables false
set_option linter.unusedSimpArgs false
/-- A slice of slices of bytes that a row's call is given. -/
structure HandR {H : Type} (W : World) (A : Option Addr) (len c : Nat) (d : DataW H) (chs : List (List Int)) : Prop where
  n : chs.length = len
  le : len ≤ c
  bulk : chs.flatten.length + chs.length ≤ Rows.uptoBulk d
  row : ∀ r (h : r < chs.length), ∃ ad A' C', A = some ad ∧ W.cell? (ad.add r) = some (.slice A' chs[r].length C') ∧ chs[r].length ≤ C' ∧ Kd.C (Kd.int .u8) W A' chs[r].length chs[r] ∧ Byt chs[r] ∧ (A' = none → C' = 0) ∧ ∀ a, A' = some a → 0 < chs[r].length → a.block < W.heap.size
theorem bulk_rows {H : Type} (f : Nat → DataW H) (g : Nat → List Int) : ∀ l : List Nat, (∀ r ∈ l, (g r).length + 1 ≤ Rows.uptoBulk (f r)) → (l.map g).flatten.length + l.length ≤ Rows.uptoBulkAll (l.map f)
  | [], _ => by simp [Rows.uptoBulkAll]
  | r :: l, h => by
    have ih := bulk_rows f g l (fun x hx => h x (by simp [hx]))
    have h1 := h r (by simp)
    simp only [List.map_cons, List.flatten_cons, List.length_append, List.length_cons, Rows.uptoBulkAll] at ih ⊢
    omega
theorem open_rows {H : Type} {enc : TypeId × Value → H} {W : World} {A : Option Addr} {len c : Nat} {d : DataW H} {p : List MemPlace}
    (h : DataW.Trod enc Tryd.prog W 0 (fun _ => true) true 25 (.slice A len c) d p) : ∃ chs, HandR W A len c d chs := by
  obtain ⟨fuel, hf⟩ := h
  rcases open_int_rows Tryd.underlying25 Tryd.underlying22 Tryd.underlying5 (by kernel_rfl) (by kernel_rfl) hf with ⟨hcs, hx⟩ | ⟨x, l, cc, Ar, L, C, Z, hcs, _, hl, hm, hx, hrow⟩
  · simp [Value.cells] at hcs
    obtain ⟨rfl, rfl, rfl⟩ := hcs
    obtain ⟨rfl, _⟩ := Prod.mk.inj hx
    exact ⟨[], rfl, Nat.le_refl _, by simp [Rows.uptoBulk], fun r h => absurd h (by simp)⟩
  · simp [Value.cells] at hcs
    obtain ⟨rfl, rfl, rfl⟩ := hcs
    obtain ⟨rfl, _⟩ := Prod.mk.inj hx
    have hlen : ((List.range len).map fun r => (Z r).take (L r)).length = len := by simp
    refine ⟨(List.range len).map fun r => (Z r).take (L r), hlen, hl, ?_, fun r h => ?_⟩
    · have hb := bulk_rows (H := H) (fun r => intRow .u8 (Ar r) (L r) (Z r)) (fun r => (Z r).take (L r)) (List.range len) (fun r hr => by
        have hr' : r < c := by have := List.mem_range.1 hr; omega
        obtain ⟨_, h1, h2, h3, _, h5, _⟩ := hrow r hr'
        unfold intRow
        cases hA : Ar r with
        | none => have := h5 hA; simp [Rows.uptoBulk]; omega
        | some a => simp only [Rows.uptoBulk, bulk_lits]; omega)
      rw [hlen]
      simp only [List.length_range] at hb
      simp only [Rows.uptoBulk]
      omega
    · have hr : r < len := by rw [hlen] at h; exact h
      obtain ⟨h1, h2, h3, h4, h5, h6, h7⟩ := hrow r (by omega)
      simp only [List.getElem_map, List.getElem_range]
      have hlt : ((Z r).take (L r)).length = L r := by simp; omega
      have hC : Kd.C (Kd.int .u8) W (Ar r) ((Z r).take (L r)).length ((Z r).take (L r)) := by
        refine ⟨rfl, by unfold maxLen at h3; omega, fun h0 => ?_⟩
        cases hA : Ar r with
        | none => have := h6 hA; omega
        | some a =>
          refine ⟨a, rfl, fun j z hj => ⟨[.int .u8 z], rfl, rfl, fun i u hu => ?_⟩⟩
          have hi : i = 0 := by
            have := (List.getElem?_eq_some_iff.1 hu).1
            simp at this; exact this
          subst hi
          simp at hu
          subst hu
          show W.cell? (a.add (j * 1 + 0)) = _
          rw [Nat.mul_one, Nat.add_zero]
          have hj1 := (List.getElem?_eq_some_iff.1 hj).1
          rw [hlt] at hj1
          rw [List.getElem?_take_of_lt hj1] at hj
          have h8 := (h7 a hA).2 j (by omega)
          rw [List.getD_eq_getElem?_getD, hj] at h8
          exact h8
      refine ⟨x, Ar r, C r, rfl, by rw [hlt]; exact h1, by rw [hlt]; exact h2, hC, byt_of (fun z hz => h5 z (List.mem_of_mem_take hz)), h6, fun a ha h0 => ?_⟩
      obtain ⟨ad, e, hc⟩ := Kd.at_int hC 0 (by omega) (by omega)
      rw [ha] at e
      cases e
      have := World.block_lt_of_cell? W _ hc
      simpa [Addr.add] using this
/-! ### the law's 'same' -/
def toA (x : S54) : Psame.S38 := ⟨x.f0, x.f1⟩
def toB (x : S54) : Psame.S54 := ⟨x.f0, x.f1⟩
theorem p_same0 (L : List S54) (hL : L.length ≤ 1048576) : ∀ d k i : Nat, L.length ≤ i + d → d < k → Psame.assizelaw01_same.l0 k (L.map toA) (L.map toB) i = some true
  | d, 0, i, _, h => by omega
  | 0, k + 1, i, hd, hk => by
    rw [Psame.assizelaw01_same.l0, if_neg (by simp; omega)]
  | d + 1, k + 1, i, hd, hk => by
    by_cases h : i < L.length
    · have ea : Psame.rd_T38 (L.map toA) (i : Int) = toA L[i] := by simp [Psame.rd_T38, h]
      have eb : Psame.rd_T54 (L.map toB) (i : Int) = toB L[i] := by simp [Psame.rd_T54, h]
      rw [Psame.assizelaw01_same.l0, if_pos (by simp; omega), if_pos (by omega), if_pos (by simp; omega), ea, eb, if_pos (show (toA L[i]).f0.toList = (toB L[i]).f0.toList from rfl), if_pos (show (toA L[i]).f1 = (toB L[i]).f1 from rfl), show wrap64 ((i : Int) + 1) = ((i + 1 : Nat) : Int) from wsucc i (by omega)]
      exact p_same0 L hL d k (i + 1) (by omega) (by omega)
    · rw [Psame.assizelaw01_same.l0, if_neg (by simp; omega)]
theorem p_same (L : List S54) (hL : L.length ≤ 1048576) : Psame.assizelaw01_same.f (L.length + 1) (L.map toA) (L.map toB) = some true := by
  unfold Psame.assizelaw01_same.f
  rw [if_pos (by simp)]
  exact p_same0 L hL L.length (L.length + 1) 0 (by omega) (by omega)
theorem cell_add (a : Addr) (g o : Nat) (h : a = ⟨g, o, none⟩) (j : Nat) : a.add j = ⟨g, o + j, none⟩ := by
  subst h
  by_cases h : j = 0
  · subst h; rfl
  · simp [Addr.add, h]
theorem lines_C {α : Type} {k : Kd α} (f : S54 → α) (hs : k.sz = 2) (hK : ∀ w x, k.K w (f x) [.string x.f0, .int .i64 x.f1]) {W : World} {g o : Nat} {A : Option Addr} {L : List S54} (hL : L.length ≤ 1048576) (hA : 0 < L.length → A = some ⟨g, o, none⟩) (hc : ∀ j u, (cellsL L)[j]? = some u → W.cell? ⟨g, o + j, none⟩ = some u) : k.C W A (L.map f).length (L.map f) := by
  refine ⟨rfl, by simp; omega, fun h0 => ⟨⟨g, o, none⟩, hA (by simpa using h0), fun j p hp => ?_⟩⟩
  have hj : j < L.length := by
    have := (List.getElem?_eq_some_iff.1 hp).1
    simpa using this
  have hp' : p = f L[j] := by simpa [List.getElem?_map, hj] using hp.symm
  subst hp'
  refine ⟨[.string L[j].f0, .int .i64 L[j].f1], by rw [hs]; rfl, hK W L[j], fun i u hu => ?_⟩
  obtain ⟨k0, k1⟩ := cellsL_at L j hj
  rw [hs, cell_add _ g o rfl]
  refine hc _ _ ?_
  match i, hu with
  | 0, hu => simp at hu; subst hu; rw [show j * 2 + 0 = 2 * j by omega]; exact k0
  | 1, hu => simp at hu; subst hu; rw [show j * 2 + 1 = 2 * j + 1 by omega]; exact k1
theorem same_true {W : World} {A B : Option Addr} {c c' g o g' o' : Nat} {L : List S54} (hL : L.length ≤ 1048576) (hc : L.length ≤ c) (hc' : L.length ≤ c') (hA : 0 < L.length → A = some ⟨g, o, none⟩) (hB : 0 < L.length → B = some ⟨g', o', none⟩)
    (h1 : ∀ j u, (cellsL L)[j]? = some u → W.cell? ⟨g, o + j, none⟩ = some u) (h2 : ∀ j u, (cellsL L)[j]? = some u → W.cell? ⟨g', o' + j, none⟩ = some u) :
    Calls Tryd.prog 13 #[.slice A L.length c, .slice B L.length c'] W fun e w' => e = .returned (.bool true) ∧ ∃ n, w' = W.drewN n := by
  have a1 := lines_C toA (k := Psame.k38) rfl (fun w x => Psame.k38_mk w (toA x)) hL hA h1
  have a2 := lines_C toB (k := Psame.k54) rfl (fun w x => Psame.k54_mk w (toB x)) hL hB h2
  have := Psame.assizelaw01_same.calls (L.length + 1) A c (L.map toA) B c' (L.map toB) true W a1 (by simpa using hc) a2 (by simpa using hc') (p_same L hL)
  simp only [List.length_map] at this
  exact this.mono fun e w' ⟨h, hd⟩ => ⟨h, hd.out⟩
theorem reps_cells : ∀ (L : List S54) (cs : List Value) {w : World} {base : Nat} {ok : Nat → Prop}, Reps (PFeed.k54.M w base ok) 2 L cs → cs = cellsL L
  | [], cs, _, _, _, h => by
    have := h.1
    simp at this
    subst this; rfl
  | x :: r, cs, w, base, ok, h => by
    have h1 := h.1
    simp only [List.length_cons] at h1
    have h0 := PFeed.k54_openM (h.2 0 x rfl)
    simp only [Nat.zero_mul, List.drop_zero] at h0
    have ih := reps_cells r (cs.drop 2) (w := w) (base := base) (ok := ok) ⟨by simp; omega, fun j p hp => by
      have := h.2 (j + 1) p (by simpa using hp)
      rwa [show (j + 1) * 2 = 2 + j * 2 by omega, ← List.drop_drop] at this⟩
    have e : cs = cs.take 2 ++ cs.drop 2 := (List.take_append_drop 2 cs).symm
    rw [e, h0, ih]; rfl
def catL (chs : List (List Int)) (i : Nat) : List Int := (chs.take i).flatten
theorem cat_succ (chs : List (List Int)) (i : Nat) (h : i < chs.length) : catL chs (i + 1) = catL chs i ++ chs[i] := by
  unfold catL
  rw [List.take_succ_eq_append_getElem h, List.flatten_append]; simp
theorem cat_le (chs : List (List Int)) (i : Nat) : (catL chs i).length ≤ chs.flatten.length := by
  have : chs.flatten = catL chs i ++ (chs.drop i).flatten := by
    unfold catL; rw [← List.flatten_append, List.take_append_drop]
  rw [this, List.length_append]; omega
structure FJ (w4 : World) (bb : Nat) (chs : List (List Int)) (i : Nat) (v4 : Value) (W : World) : Prop where
  fm : Fr (fun k => k = bb) w4 W
  all : W.ownsRow w4.heap.size 5 1 v4 (catL chs i).length (nums .u8 (catL chs i))
  buf : ∃ u, BufAt W w4.heap.size bb u (spl [] (catL chs i)).2 ∧ ∀ k, v4.ownBlock = some k → u.ownBlock ≠ some k
structure FM (w4 : World) (bb : Nat) (chs : List (List Int)) (i : Nat) (v4 u : Value) (W : World) : Prop where
  fm : Fr (fun k => k = bb) w4 W
  all : W.ownsRow w4.heap.size 5 1 v4 (catL chs (i + 1)).length (nums .u8 (catL chs (i + 1)))
  buf : BufAt W w4.heap.size bb u (spl [] (catL chs i)).2
  ne : ∀ k, v4.ownBlock = some k → u.ownBlock ≠ some k
theorem FM.fr' {w4 : World} {bb : Nat} {chs : List (List Int)} {i : Nat} {v4 u : Value} {W W' : World} (h : FM w4 bb chs i v4 u W) (hf : Fr (fun _ => False) W W') : FM w4 bb chs i v4 u W' :=
  ⟨h.fm.trans hf (fun _ _ h => h.elim), row_fr h.all hf (fun _ _ => id), ⟨h.buf.blk.fr hf id, row_fr h.buf.row hf (fun _ _ => id)⟩, h.ne⟩
theorem FJ.app {w4 : World} {bb : Nat} {chs : List (List Int)} {i : Nat} {v4 : Value} {W : World} (h : FJ w4 bb chs i v4 W) (hi : i < chs.length) (hl : chs.flatten.length ≤ 1048576) {A : Option Addr} {c : Nat} (hC : Kd.C (Kd.int .u8) W A chs[i].length chs[i]) (hA : A = none → c = 0) :
    ∃ v w1 u, (appOp #[22, 22] 22 #[v4, .slice A chs[i].length c]).run Tryd.prog W = .ok v w1 ∧ FM w4 bb chs i v u w1 := by
  obtain ⟨u, hu, hne⟩ := h.buf
  have hsz := h.fm.size
  have hle := cat_le chs (i + 1)
  rw [cat_succ chs i hi, List.length_append] at hle
  obtain ⟨v, w1, h1, h2, h3, h4⟩ := app_u8 h.all hC hA hsz (by omega)
  have hf := Fr.of_grown h3
  refine ⟨v, w1, u, h1, h.fm.trans hf (fun j hj e => by have := row_low h.all e; omega), by rw [cat_succ chs i hi]; exact h2, ⟨hu.blk.fr hf (fun e => ?_), row_fr hu.row hf (fun k hk e => hne k e hk)⟩, fun k hk e => ?_⟩
  · obtain ⟨vs, q⟩ := row_blk h.all e; exact absurd (blk_type q hu.blk) (by decide)
  · rcases h4 with h4 | h4
    · exact hne k (h4 ▸ hk) e
    · rw [h4] at hk
      injection hk with hk
      obtain ⟨vs, q⟩ := row_blk hu.row e
      have := q.lt; omega
theorem kept_len (l : List Int) : ((bufL l).length : Int) = keptN l := by
  unfold bufL keptN
  split <;> simp
/-- A part of a slice of lines. -/
def cutB (A : Option Addr) (c fr : Nat) : Option Addr := if c = fr then A else A.map (·.add (fr * 2))
theorem slice_runB (w : World) (A : Option Addr) (n c fr m : Nat) (hm : n = fr + m) (h2 : n ≤ c) : (Instr.slice 28 (.slice A n c) (some (.int .i64 fr)) none none).run Tryd.prog w = .ok (.slice (cutB A c fr) m (c - fr)) w := by
  have e : (sizeOf (Tryd.prog.elem 28)).run Tryd.prog w = .ok 2 w := by kernel_rfl
  rw [run_slice_l w 28 A n c Tryd.underlying28 .i64 fr (by omega) (by omega), e]
  have hs : n - fr = m := by omega
  simp [Result.andThen, sliced, cutB, hs]
/-- What Feed leaves, and what is asked of it. -/
theorem FM.fed {w4 : World} {bb : Nat} {chs : List (List Int)} {i : Nat} {v4 u : Value} {W : World} (h : FM w4 bb chs i v4 u W) (hi : i < chs.length) (hl : chs.flatten.length ≤ 1048576) (hbb : bb < w4.heap.size) {b2 cw : Nat} {Aw : Option Addr}
    (hw : W.ownsRow b2 54 2 (.slice Aw ((spl [] (catL chs (i + 1))).1.map lnOf).length cw) ((spl [] (catL chs (i + 1))).1.map lnOf).length (cellsL ((spl [] (catL chs (i + 1))).1.map lnOf)))
    {e : Ending} {w6 : World} (hF : FeedPost w4.heap.size bb u (spl [] (catL chs i)).2 chs[i] W e w6) :
    ∃ A c, e = .returned (.slice A (spl (spl [] (catL chs i)).2 chs[i]).1.length c) ∧
      (∀ m, Calls Tryd.prog 13 #[.slice A (spl (spl [] (catL chs i)).2 chs[i]).1.length c, .slice (cutB Aw cw (spl [] (catL chs i)).1.length) (spl (spl [] (catL chs i)).2 chs[i]).1.length (cw - (spl [] (catL chs i)).1.length)] (w6.drewN m) fun e w' => e = .returned (.bool true) ∧ ∃ n, w' = (w6.drewN m).drewN n) ∧
      (∀ m, Calls Tryd.prog 15 #[.pointer (some ⟨bb, 0, none⟩)] (w6.drewN m) fun e w' => e = .returned (.int .i64 (keptN (spl [] (catL chs (i + 1))).2)) ∧ w' = w6.drewN m) ∧
      FJ w4 bb chs (i + 1) v4 w6 ∧ Fr (fun k => k = bb ∨ u.ownBlock = some k) W w6 := by
  obtain ⟨v, u', rfl, ho, hbu, hub, hf⟩ := hF
  obtain ⟨A, c, rfl⟩ := own_slice ho
  have hsz := h.fm.size
  have hs : spl [] (catL chs (i + 1)) = ((spl [] (catL chs i)).1 ++ (spl (spl [] (catL chs i)).2 chs[i]).1, (spl (spl [] (catL chs i)).2 chs[i]).2) := by rw [cat_succ chs i hi, spl_app]
  have hlen := Nat.le_trans (spl_len (catL chs (i + 1)) []) (Nat.le_trans (cat_le chs (i + 1)) hl)
  rw [hs] at hlen
  simp only [List.length_append] at hlen
  have hw6 := row_fr hw hf (fun k hk hs => by
    obtain ⟨vs, q⟩ := row_blk hw hk
    rcases hs with hs | hs
    · subst hs; exact absurd (blk_type q h.buf.blk) (by decide)
    · obtain ⟨vs', q'⟩ := row_blk h.buf.row hs; exact absurd (blk_type q q') (by decide))
  rw [hs] at hw6
  simp only [List.map_append] at hw6
  have hkeep : (spl (spl [] (catL chs i)).2 chs[i]).2 = (spl [] (catL chs (i + 1))).2 := by rw [hs]
  rw [hkeep] at hbu
  generalize (spl (spl [] (catL chs i)).2 chs[i]).1 = D at *
  generalize (spl [] (catL chs i)).1 = E at *
  refine ⟨A, c, rfl, fun m => ?_, fun m => ?_, ⟨h.fm.trans hf (fun j hj hs => ?_), row_fr h.all hf (fun k hk hs => ?_), u', hbu, fun k hk e => ?_⟩, hf⟩
  · have key := same_true (W := w6.drewN m) (A := A) (B := cutB Aw cw E.length) (c := c) (c' := cw - E.length) (L := D.map lnOf)
      (g := match A with | some a => a.block | none => 0) (o := 0) (g' := match Aw with | some a => a.block | none => 0) (o' := E.length * 2) (by rw [List.length_map]; omega)
    simp only [List.length_map] at key
    by_cases hD : D.length = 0
    · have hDn := List.eq_nil_of_length_eq_zero hD
      subst hDn
      exact key (Nat.zero_le _) (Nat.zero_le _) (fun h => absurd h (by simp)) (fun h => absurd h (by simp)) (fun j u hu => by simp [cellsL] at hu) (fun j u hu => by simp [cellsL] at hu)
    · obtain ⟨g, c1, e1, hc1, hcell⟩ := own_cells ho (by omega)
      obtain ⟨g', c2, e2, hc2, hcell'⟩ := own_cells hw6 (by simp; omega)
      injection e1 with e1a _ e1b
      injection e2 with e2a _ e2b
      subst e1a e1b e2a e2b
      simp only [List.length_append, List.length_map] at hc2
      refine key (by simpa using hc1) (by omega) (fun _ => rfl) (fun _ => ?_) (fun j u hu => ?_) (fun j u hu => ?_)
      · unfold cutB
        rw [if_neg (by omega)]
        simp only [Option.map_some]
        rw [cell_add _ g' 0 rfl]; simp
      · rw [Nat.zero_add]; exact hcell j u hu
      · refine hcell' _ _ ?_
        rw [cellsL_app, List.getElem?_append_right (by rw [cellsL_len, List.length_map]; omega), cellsL_len, List.length_map, show E.length * 2 + j - E.length * 2 = j by omega]
        exact hu
  · have p := hbu.blk.cell 0
    obtain ⟨Au, cu, rfl⟩ := own_slice hbu.row
    simp only [List.getElem?_cons_zero] at p
    have hb := bufL_len (spl [] (catL chs (i + 1))).2
    have := len_any (w6.drewN m) bb Au (bufL (spl [] (catL chs (i + 1))).2).length cu p (by omega)
    rw [kept_len] at this
    exact this
  · rcases hs with hs | hs
    · exact hs
    · have := row_low h.buf.row hs; omega
  · rcases hs with hs | hs
    · subst hs; obtain ⟨vs, q⟩ := row_blk h.all hk; exact absurd (blk_type q h.buf.blk) (by decide)
    · exact h.ne k hk hs
  · rcases hub k e with hb | hb
    · obtain ⟨vs, q⟩ := row_blk h.all hk
      have := q.lt; omega
    · exact h.ne k hk hb
end Go.Proofs.YtelhkbanohhjhaaDoor.Tx
