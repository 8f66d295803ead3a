/- Rows that grow; the closure that gathers a term's variables. -/
import Derived.Test.YtndjjnnljihmnaaGreatFmM
import Derived.Maps.AppendAt
import Derived.Laws.OwnMore
namespace Go.Proofs.YtndjjnnljihmnaaGreat
open Go.RowKit Go.Proofs.YtndjjnnljihmnaaGreat.Lx
set_option linter.unusedVariables false
set_option linter.unusedSimpArgs false
def appOp (ts : Array TypeId) (ty : TypeId) (args : Array Value) : Sem Value := Builtin.append_ ts ty args
theorem app_block (ts : Array TypeId) (ty : TypeId) (args : Array Value) : Builtin.append_ ts ty args = appOp ts ty args := rfl
theorem infoS : (Tryz.prog.info? 9).map (fun i => (i.zero, i.size, i.bytes)) = some (some (.string ⟨#[]⟩), 1, 16) := by kernel_rfl
theorem infoF : (Tryz.prog.info? 27).map (fun i => (i.zero, i.size, i.bytes)) = some (some (.agg #[.int .i64 0, .string ⟨#[]⟩, .int .i64 0, .string ⟨#[]⟩, .slice none 0 0, .int .i64 0, .string ⟨#[]⟩, .slice none 0 0, .slice none 0 0]), 9, 144) := by kernel_rfl
theorem info_parts {T : TypeId} {z : Value} {s b : Nat} (h : (Tryz.prog.info? T).map (fun i => (i.zero, i.size, i.bytes)) = some (some z, s, b)) : ∃ i, Tryz.prog.info? T = some i ∧ i.zero = some z ∧ i.size = s ∧ i.bytes = b := by
  cases hi : Tryz.prog.info? T with
  | none => rw [hi] at h; cases h
  | some i =>
    rw [hi] at h
    simp only [Option.map_some, Option.some.injEq, Prod.mk.injEq] at h
    exact ⟨i, rfl, h.1, h.2.1, h.2.2⟩
theorem row_blk {W : World} {base : Nat} {e : TypeId} {size n : Nat} {v : Value} {xs : List Value} (h : W.ownsRow base e size v n xs) {k : Nat} (hk : v.ownBlock = some k) : ∃ vs, Blk W k e vs := by
  rcases h.2 with ⟨rfl, _⟩ | ⟨g, cap, cur, rfl, _, hh, _⟩
  · simp [Value.ownBlock] at hk
  · obtain rfl : g = k := by simpa [Value.ownBlock] using hk
    exact ⟨cur.toList, by unfold Blk; simpa using hh⟩
theorem row_low {W : World} {base : Nat} {e : TypeId} {size n : Nat} {v : Value} {xs : List Value} (h : W.ownsRow base e size v n xs) {k : Nat} (hk : v.ownBlock = some k) : base ≤ k := by
  rcases h.2 with ⟨rfl, _⟩ | ⟨g, cap, cur, rfl, hg, hh, _⟩
  · simp [Value.ownBlock] at hk
  · simp [Value.ownBlock] at hk; omega
theorem blk_type {w : World} {g : Nat} {T T' : TypeId} {vs vs' : List Value} (h : Blk w g T vs) (h' : Blk w g T' vs') : T = T' := by
  have e := h.symm.trans h'
  injection e with e
  injection e
theorem row_fr {w w1 : World} {base : Nat} {e : TypeId} {size n : Nat} {v : Value} {xs : List Value} {S : Nat → Prop} (h : w.ownsRow base e size v n xs) (hf : Fr S w w1) (hS : ∀ k, v.ownBlock = some k → ¬ S k) : w1.ownsRow base e size v n xs := by
  refine ⟨h.1, ?_⟩
  rcases h.2 with ⟨rfl, h0⟩ | ⟨g, cap, cur, rfl, hg, hh, h2⟩
  · exact .inl ⟨rfl, h0⟩
  · refine .inr ⟨g, cap, cur, rfl, hg, ?_, h2⟩
    rw [hf.block g (Array.getElem?_eq_some_iff.1 hh).1 (hS g rfl)]; exact hh
theorem row_slice {W : World} {base : Nat} {e : TypeId} {size n : Nat} {v : Value} {xs : List Value} (h : W.ownsRow base e size v n xs) : ∃ A c, v = .slice A n c := by
  rcases h.2 with ⟨rfl, h0⟩ | ⟨g, cap, cur, rfl, _⟩
  · exact ⟨none, 0, by rw [h0]⟩
  · exact ⟨_, _, rfl⟩
theorem row_cells {W : World} {base : Nat} {e : TypeId} {size n : Nat} {v : Value} {xs : List Value} (h : W.ownsRow base e size v n xs) (hn : 0 < n) : ∃ g c, v = .slice (some ⟨g, 0, none⟩) n c ∧ n ≤ c ∧ base ≤ g ∧ ∀ j u, xs[j]? = some u → W.cell? ⟨g, j, none⟩ = some u := by
  rcases h.2 with ⟨_, h0⟩ | ⟨g, cap, cur, rfl, hg, hh, hc, hm, hs, ht⟩
  · omega
  · refine ⟨g, cap, rfl, hc, hg, fun j u hu => ?_⟩
    have hb : Blk W g e cur.toList := by unfold Blk; simpa using hh
    have := hb.cell j
    rw [this]
    have hj := (List.getElem?_eq_some_iff.1 hu).1
    rw [← ht] at hu
    rw [List.getElem?_take] at hu
    split at hu
    · exact hu
    · cases hu
/-- A name appended. -/
theorem app_str {W : World} {base : Nat} {v : Value} {xs : List ByteArray} (HO : W.ownsRow base 9 1 v xs.length (strs xs)) (hk : xs.length ≤ 4398046511104) (hb : base ≤ W.heap.size) (s : ByteArray) :
    ∃ v' w', (appOp #[77, 77] 77 #[v, .slice (some ⟨W.heap.size, 0, none⟩) 1 1]).run Tryz.prog (W.alloc (.cells #[.string s] 9)) = .ok v' w' ∧ w'.ownsRow base 9 1 v' (xs ++ [s]).length (strs (xs ++ [s])) ∧ (W.alloc (.cells #[.string s] 9)).grownBy w' v.ownBlock ∧ (v'.ownBlock = v.ownBlock ∨ v'.ownBlock = some (W.heap.size + 1)) := by
  obtain ⟨i0, hi, hz0, hz1, hz2⟩ := info_parts infoS
  obtain ⟨v', w', h1, h2, h3, _, h5⟩ := run_append_own_at (P := Tryz.prog) (W.alloc (.cells #[.string s] 9)) base 77 77 9 i0 (.string ⟨#[]⟩) 1 16 Tryz.underlying77 hi hz0 hz1 hz2 rfl (by decide) v xs.length (strs xs) (HO.alloc _) ⟨W.heap.size, 0, none⟩ 1 1 [.string s] rfl
    (by
      intro j u hj
      match j, hj with
      | 0, hj => simp at hj; subst hj; simp [Addr.add])
    (by intro u hu; simp at hu; subst hu; rfl) (by unfold maxLen; omega) (by omega) (by simp; omega)
  exact ⟨v', w', h1, by rw [strs_app, List.length_append]; exact h2, h3, by simpa using h5⟩
theorem Fr.stay {S T : Nat → Prop} {w w' : World} (hf : Fr T w w') (h : ∀ b, S b → ¬ T b) : Stay S S w w' := fun b o u hS hc => ⟨hS, (hf.cell (a := ⟨b, o, none⟩) (World.block_lt_of_cell? w _ hc) (h b hS)).trans hc⟩
theorem Blk.grown {w w' : World} {g : Nat} {T : TypeId} {vs : List Value} {row : Option Nat} (h : Blk w g T vs) (hg : w.grownBy w' row) (hne : row ≠ some g) : Blk w' g T vs := h.fr (Fr.of_grown hg) (fun e => hne e)
/-- The closure's captured variables: the bound names, what was gathered, itself. -/
structure MS (S : Nat → Prop) (base gb go gg : Nat) (Ab : Option Addr) (cb : Nat) (bd : List ByteArray) (v : Value) (out : List ByteArray) (w : World) : Prop where
  kb : Blk w gb 77 [.slice Ab bd.length cb]
  rb : Nm w Ab bd
  ko : Blk w go 77 [v]
  ro : w.ownsRow base 9 1 v out.length (strs out)
  kg : Blk w gg 97 [(.func (.func 98) #[] #[.pointer (some ⟨gb, 0, none⟩), .pointer (some ⟨go, 0, none⟩), .pointer (some ⟨gg, 0, none⟩)])]
  hb : base ≤ w.heap.size
  hgo : base ≤ go
  hne : gb ≠ go
  low : ∀ b, S b → b < base
  sep : ∀ g o, Ab = some ⟨g, o, none⟩ → 0 < bd.length → v.ownBlock ≠ some g ∧ g ≠ go
theorem MS.go_ne {S : Nat → Prop} {base gb go gg : Nat} {Ab : Option Addr} {cb : Nat} {bd out : List ByteArray} {v : Value} {w : World} (h : MS S base gb go gg Ab cb bd v out w) : v.ownBlock ≠ some go ∧ v.ownBlock ≠ some gb ∧ v.ownBlock ≠ some gg ∧ gg ≠ go := by
  refine ⟨fun e => ?_, fun e => ?_, fun e => ?_, fun e => ?_⟩
  · obtain ⟨vs, q⟩ := row_blk h.ro e; exact absurd (blk_type q h.ko) (by decide)
  · obtain ⟨vs, q⟩ := row_blk h.ro e; exact absurd (blk_type q h.kb) (by decide)
  · obtain ⟨vs, q⟩ := row_blk h.ro e; exact absurd (blk_type q h.kg) (by decide)
  · subst e; exact absurd (blk_type h.kg h.ko) (by decide)
/-- What stands behind blocks of the closure's own. -/
theorem MS.below {S : Nat → Prop} {base gb go gg : Nat} {Ab : Option Addr} {cb : Nat} {bd out : List ByteArray} {v : Value} {w w' : World} (h : MS S base gb go gg Ab cb bd v out w) (hb : Below w.heap.size w w') : MS S base gb go gg Ab cb bd v out w' :=
  ⟨h.kb.go hb, h.rb.below hb, h.ko.go hb, row_fr h.ro (Fr.of_below hb (Nat.le_refl _)) (fun k hk hs => hs), h.kg.go hb, Nat.le_trans h.hb hb.size, h.hgo, h.hne, h.low, h.sep⟩
/-- met$1, up to a size. -/
def MetTAt (fn : Nat) (N : Nat) : Prop := ∀ (x : Int) (f : ByteArray) (ts : List Tm) (S : Nat → Prop) (w : World) (A : Option Addr) (c base gb go gg : Nat) (Ab : Option Addr) (cb : Nat) (bd out : List ByteArray) (v : Value), (Tm.mk x f ts).wt ≤ N → N ≤ 1125899906842624 → out.length + (Tm.mk x f ts).wt ≤ 4398046511104 → bd.length ≤ 4398046511104 → ST S w A ts.length c ts → MS S base gb go gg Ab cb bd v out w →
    Calls Tryz.prog fn #[.agg #[.int .i64 x, .string f, .slice A ts.length c], .pointer (some ⟨gb, 0, none⟩), .pointer (some ⟨go, 0, none⟩), .pointer (some ⟨gg, 0, none⟩)] w fun e w' => e = .returned (.tuple #[]) ∧ ∃ v', MS S base gb go gg Ab cb bd v' ((Tm.mk x f ts).met bd out) w' ∧ Fr (fun i => i = go ∨ v.ownBlock = some i) w w' ∧ (∀ g, v'.ownBlock = some g → v.ownBlock = some g ∨ w.heap.size ≤ g)
/-- Is a name among names that lie in memory? -/
theorem has_any (A : Option Addr) (c : Nat) (l : List ByteArray) (x : ByteArray) (w : World) (h : Nm w A l) (hl : l.length ≤ 4398046511104) : Calls Tryz.prog 69 #[.slice A l.length c, .string x] w fun e w' => e = .returned (.bool (Lib.containsS l x)) ∧ w = w' := by
  cases l with
  | nil =>
    refine (Tryz.slices_Contains_string_empty A c x w).mono ?_
    rintro e w' ⟨rfl, rfl⟩
    exact ⟨rfl, rfl⟩
  | cons a r =>
    obtain ⟨g, o, rfl, hc⟩ := h (by simp)
    refine (Tryz.slices_Contains_string g o (a :: r).length c (a :: r) x w (Nat.le_refl _) (by omega) hc).mono ?_
    rintro e w' ⟨rfl, rfl⟩
    exact ⟨by rw [List.take_length], rfl⟩
theorem row_nm {W : World} {base : Nat} {v : Value} {xs : List ByteArray} (h : W.ownsRow base 9 1 v xs.length (strs xs)) : ∃ A c, v = .slice A xs.length c ∧ Nm W A xs := by
  obtain ⟨A, c, rfl⟩ := row_slice h
  refine ⟨A, c, rfl, fun h0 => ?_⟩
  obtain ⟨g, c', e, _, _, hc⟩ := row_cells h h0
  injection e with e1 _ e2
  subst e1
  refine ⟨g, 0, rfl, fun j hj => ?_⟩
  rw [Nat.zero_add]
  exact hc j _ (by simp [strs, hj])
theorem MS.push {S : Nat → Prop} {base gb go gg : Nat} {Ab : Option Addr} {cb : Nat} {bd out : List ByteArray} {v v' : Value} {W w3 : World} {s : ByteArray} (h : MS S base gb go gg Ab cb bd v out W)
    (hro : w3.ownsRow base 9 1 v' (out ++ [s]).length (strs (out ++ [s]))) (hgr : (W.alloc (.cells #[.string s] 9)).grownBy w3 v.ownBlock) (hown : v'.ownBlock = v.ownBlock ∨ v'.ownBlock = some (W.heap.size + 1)) :
    MS S base gb go gg Ab cb bd v' (out ++ [s]) (w3.setCell ⟨go, 0, none⟩ v') ∧ Fr (fun i => i = go ∨ v.ownBlock = some i) W (w3.setCell ⟨go, 0, none⟩ v') ∧ (∀ g, v'.ownBlock = some g → v.ownBlock = some g ∨ W.heap.size ≤ g) := by
  obtain ⟨n1, n2, n3, n4⟩ := h.go_ne
  have lgo := h.ko.lt
  have hf1 : Fr (fun i => i = go ∨ v.ownBlock = some i) W (W.alloc (.cells #[.string s] 9)) := (Fr.refl _ W).alloc _
  have hf2 : Fr (fun i => i = go ∨ v.ownBlock = some i) W w3 := hf1.trans (Fr.of_grown hgr) (fun i _ hi => Or.inr hi)
  have hf : Fr (fun i => i = go ∨ v.ownBlock = some i) W (w3.setCell ⟨go, 0, none⟩ v') := hf2.set go 0 v' (Or.inl rfl)
  have hv'go : ∀ k, v'.ownBlock = some k → k ≠ go := fun k hk e => by
    subst e
    rcases hown with ho | ho
    · exact n1 (ho.symm.trans hk)
    · have := ho.symm.trans hk; simp at this; omega
  refine ⟨⟨h.kb.fr hf (fun e => by rcases e with e | e; exact h.hne e; exact n2 e), ?_, ?_, ?_, h.kg.fr hf (fun e => by rcases e with e | e; exact n4 e; exact n3 e), Nat.le_trans h.hb hf.size, h.hgo, h.hne, h.low, ?_⟩, hf, ?_⟩
  · by_cases h0 : 0 < bd.length
    · exact h.rb.fr hf (fun g o e hh => by
        have := h.sep g o e h0
        rcases hh with hh | hh
        · exact this.2 hh
        · exact this.1 hh)
    · intro h1; exact absurd h1 h0
  · have := ((h.ko.alloc (.cells #[.string s] 9)).grown hgr n1).set 0 v'
    simpa using this
  · exact row_fr hro ((Fr.refl (fun i => i = go) w3).set go 0 v' rfl) (fun k hk e => hv'go k hk e)
  · intro g o e h0
    have hs := h.sep g o e h0
    refine ⟨fun hh => ?_, hs.2⟩
    rcases hown with ho | ho
    · exact hs.1 (ho.symm.trans hh)
    · obtain ⟨g', o', e', hc⟩ := h.rb h0
      rw [e] at e'
      injection e' with e'; injection e' with e1 e2
      subst e1
      have hl := World.block_lt_of_cell? W _ (hc 0 h0)
      have := ho.symm.trans hh
      simp at this hl; omega
  · intro g hg
    rcases hown with ho | ho
    · exact Or.inl (ho.symm.trans hg)
    · have := ho.symm.trans hg; simp at this; exact Or.inr (by omega)
theorem Tm.wts_take : ∀ (ts : List Tm) (i : Nat) (h : i < ts.length), Tm.wts (ts.take i) + Tm.wt ts[i] ≤ Tm.wts ts
  | t :: r, 0, _ => by simp [Tm.wts]
  | t :: r, i + 1, h => by
    have := Tm.wts_take r i (by simpa using h)
    simp only [Tm.wts, List.getElem_cons_succ, List.take_succ_cons]; omega
theorem Tm.len_wts : ∀ ts : List Tm, ts.length ≤ Tm.wts ts
  | [] => Nat.zero_le _
  | t :: r => by have := Tm.len_wts r; have := t.wt_pos; rw [Tm.wts, List.length_cons]; omega
theorem vstep_eq (bd out : List ByteArray) (n : ByteArray) : vstep bd out n = if isVarB (bs n) && !(Lib.containsS bd n) && !(Lib.containsS out n) then out ++ [n] else out := rfl
attribute [local go_sem ↓] app_block
set_option maxHeartbeats 6400000 in
theorem metT0 : ∀ N, MetTAt 98 N := by
  intro N
  induction N with
  | zero => intro x f ts S w A c base gb go gg Ab cb bd out v h; have := (Tm.mk x f ts).wt_pos; omega
  | succ N ih =>
    intro x f ts S w A c base gb go gg Ab cb bd out v h hN ho hbl hst hms
    have hwt : (Tm.mk x f ts).wt = 1 + f.size + Tm.wts ts := by rw [Tm.wt]
    rw [Tm.met]
    have hvl := vstep_len bd out f
    have hve := vstep_eq bd out f
    obtain ⟨Ao, co, rfl, hnm⟩ := row_nm hms.ro
    have HIV := Lib.hid (fun w' => isVar_any f w' (by omega))
    have hb0 : Below w.heap.size w (w.alloc (.cells #[.int .i64 x, .string f, .slice A ts.length c] 24)) := Below.alloc (Below.refl _ _) (Nat.le_refl _) _
    have HM := Lib.hid (hms.below hb0)
    have HF0 : Hid (Fr (fun i => i = go ∨ (Value.slice Ao out.length co).ownBlock = some i) w (w.alloc (.cells #[.int .i64 x, .string f, .slice A ts.length c] 24))) := Lib.hid (Fr.of_below hb0 (Nat.le_refl _))
    have HH1 := Lib.hid (has_any Ab cb bd f _ HM.out.rb hbl)
    have HH2 := Lib.hid (has_any Ao co out f _ (hnm.below hb0) (by omega))
    have HAP := Lib.hid (app_str HM.out.ro (by omega) HM.out.hb f)
    have BKt := Lib.hid (Blk.new w 24 [.int .i64 x, .string f, .slice A ts.length c])
    simp only [List.toArray] at BKt
    have HST := Lib.hid hst
    have hlow := hms.low
    have hgob := hms.hgo
    have hownl : ∀ k, (Value.slice Ao out.length co).ownBlock = some k → base ≤ k := fun k hk => row_low hms.ro hk
    have HBD : Hid ((vstep bd out f).length + Tm.wts ts ≤ 4398046511104 ∧ Tm.wts ts ≤ N ∧ N + 1 ≤ 1125899906842624 ∧ bd.length ≤ 4398046511104) := Lib.hid (by omega)
    have hgow := hms.ko.lt
    have hlen : ts.length ≤ 1152921504606846976 := by have := Tm.len_wts ts; omega
    clear hnm hst hms hb0 h ho hbl hN hwt hvl
    generalize vstep bd out f = out1 at *
    have hob : (Value.slice Ao out.length co).ownBlock = (Value.slice Ao out.length co).ownBlock := rfl
    generalize hob2 : (Value.slice Ao out.length co).ownBlock = own at hob HF0 hownl ⊢
    have HOB := Lib.hid hob2
    clear hob hob2
    have HSS : Hid (∀ b, S b → ¬ (b = go ∨ own = some b)) := Lib.hid (fun b hS e => by
      have h1 := hlow b hS
      rcases e with e | e
      · omega
      · have := hownl b e; omega)
    have HGO := Lib.hid hownl
    clear hlow hgob hownl
    go_enter Tryz.func98, Tryz.ntmps98
    go_upto_region 1 with (fail)
    generalize hW : w.alloc (.cells #[.int .i64 x, .string f, .slice A ts.length c] 24) = W at *
    have hWs : W.heap.size = w.heap.size + 1 := by rw [← hW]; simp
    clear hW
    have t0 := BKt.out.cell 0
    have t1 := BKt.out.cell 1
    have t2 := BKt.out.cell 2
    simp only [List.getElem?_cons_zero, List.getElem?_cons_succ] at t0 t1 t2
    have b0 := HM.out.kb.cell 0
    have g0 := HM.out.ko.cell 0
    simp only [List.getElem?_cons_zero] at b0 g0
    have HVE := Lib.hid hve
    have HWS := Lib.hid hWs
    have HGL := Lib.hid hgow
    clear hve hWs hgow
    generalize isVarB (bs f) = q1 at *
    generalize Lib.containsS bd f = q2 at *
    generalize Lib.containsS out f = q3 at *
    cases q1
    case' false =>
      go_wp2_with fail
      refine (HIV.out _).mono ?_
      rintro e w2 ⟨rfl, rfl⟩
      go_upto_region 3 with (fail)
      have HM1 : Hid (∃ v1, MS S base gb go gg Ab cb bd v1 out1 W ∧ Fr (fun i => i = go ∨ own = some i) w W ∧ (∀ g, v1.ownBlock = some g → own = some g ∨ w.heap.size ≤ g)) := Lib.hid (by rw [show out1 = out by have := HVE.out; simpa using this]; exact ⟨_, HM.out, HF0.out, fun g hg => Or.inl (HOB.out.symm.trans hg)⟩)
      clear HM HF0 HAP HH1 HH2 HVE b0 g0 t0 t1 t2
    case' true =>
      cases q2
      case' true =>
        go_wp2_with fail
        refine (HIV.out _).mono ?_
        rintro e w2 ⟨rfl, rfl⟩
        go_wp2_with fail
        refine HH1.out.mono ?_
        rintro e w2 ⟨rfl, rfl⟩
        go_upto_region 3 with (fail)
        have HM1 : Hid (∃ v1, MS S base gb go gg Ab cb bd v1 out1 W ∧ Fr (fun i => i = go ∨ own = some i) w W ∧ (∀ g, v1.ownBlock = some g → own = some g ∨ w.heap.size ≤ g)) := Lib.hid (by rw [show out1 = out by have := HVE.out; simpa using this]; exact ⟨_, HM.out, HF0.out, fun g hg => Or.inl (HOB.out.symm.trans hg)⟩)
        clear HM HF0 HAP HH1 HH2 HVE b0 g0 t0 t1 t2
      case' false =>
        go_wp2_with fail
        refine (HIV.out _).mono ?_
        rintro e w2 ⟨rfl, rfl⟩
        go_wp2_with fail
        refine HH1.out.mono ?_
        rintro e w2 ⟨rfl, rfl⟩
        go_wp2_with fail
        refine HH2.out.mono ?_
        rintro e w2 ⟨rfl, rfl⟩
        cases q3
        case' true =>
          go_upto_region 3 with (fail)
          have HM1 : Hid (∃ v1, MS S base gb go gg Ab cb bd v1 out1 W ∧ Fr (fun i => i = go ∨ own = some i) w W ∧ (∀ g, v1.ownBlock = some g → own = some g ∨ w.heap.size ≤ g)) := Lib.hid (by rw [show out1 = out by have := HVE.out; simpa using this]; exact ⟨_, HM.out, HF0.out, fun g hg => Or.inl (HOB.out.symm.trans hg)⟩)
          clear HM HF0 HAP HH1 HH2 HVE b0 g0 t0 t1 t2
        case' false =>
          obtain ⟨v', w3, hrun, hro, hgr, hown⟩ := HAP.out
          obtain ⟨p1, p2, p3⟩ := HM.out.push hro hgr hown
          rw [HOB.out] at p2 p3
          obtain ⟨A', c', rfl⟩ := row_slice hro
          have gz := (((HM.out.ko.alloc (.cells #[.string f] 9)).grown hgr HM.out.go_ne.1)).free 0
          have g3 := (((HM.out.ko.alloc (.cells #[.string f] 9)).grown hgr HM.out.go_ne.1)).cell 0
          simp only [List.getElem?_cons_zero] at g3
          have BT3 := Lib.hid (BKt.out.fr p2 (fun e => by rcases e with e | e; (have := HGL.out; omega); (obtain ⟨vs, q⟩ := row_blk HM.out.ro (HOB.out.trans e); exact absurd (blk_type q BKt.out) (by decide))))
          simp only [List.length_append, List.length_cons, List.length_nil, Nat.zero_add] at hrun p1 p2 p3 BT3 HM
          clear hro hgr hown
          go_upto_region 3 with (fail)
          generalize w3.setCell ⟨go, 0, none⟩ (.slice A' (out.length + 1) c') = W1 at *
          have HM1 : Hid (∃ v1, MS S base gb go gg Ab cb bd v1 out1 W1 ∧ Fr (fun i => i = go ∨ own = some i) w W1 ∧ (∀ g, v1.ownBlock = some g → own = some g ∨ w.heap.size ≤ g)) := Lib.hid (by rw [show out1 = out ++ [f] by have := HVE.out; simpa using this]; exact ⟨_, p1, HF0.out.trans p2 (fun i _ hi => hi), fun g hg => by rcases p3 g hg with h | h; exact Or.inl h; exact Or.inr (by have := HWS.out; omega)⟩)
          clear hrun gz g3 p1 p2 p3 HM HF0 HAP HH1 HH2 HVE b0 g0 t0 t1 t2 BKt
          have BKt := BT3
          clear BT3
          generalize W1 = W at *
    all_goals
      obtain ⟨v1, hm1, hf1, ho1⟩ := HM1.out
      clear HM1
      have t2 := BKt.out.cell 2
      simp only [List.getElem?_cons_zero, List.getElem?_cons_succ] at t2
      have HM2 := Lib.hid hm1
      have HF2 := Lib.hid hf1
      have HO2 := Lib.hid ho1
      clear hm1 hf1 ho1 BKt
      go_wp2_with fail
      go_loopw [32] (fun vi wl => ∃ i v2, vi = .int .i64 (i : Nat) ∧ i ≤ ts.length ∧ MS S base gb go gg Ab cb bd v2 (Tm.mets bd out1 (ts.take i)) wl ∧ Fr (fun i => i = go ∨ own = some i) w wl ∧ (∀ g, v2.ownBlock = some g → own = some g ∨ w.heap.size ≤ g)) (fun vi _ => ts.length - (intOf vi).toNat)
      case atStart => exact ⟨0, v1, rfl, by omega, by rw [List.take_zero, Tm.mets]; exact HM2.out, HF2.out, HO2.out⟩
      case round =>
        obtain ⟨i, v2, rfl, hi, hm, hf, hown⟩ := hrel
        have HM := Lib.hid hm
        have HF := Lib.hid hf
        have HO := Lib.hid hown
        clear hm hf hown
        by_cases hlt : i < ts.length
        · have hstr := HST.out.stay (HF.out.stay HSS.out)
          obtain ⟨b, o, hA, v', f', us, Ai, ci, hme, hsti, k0, k1, k2⟩ := hstr.at i hlt
          subst hA
          have hgl := HM.out.kg.lt
          have hgn := Nat.ne_of_lt hgl
          have hgn' := hgn.symm
          have y0 := HM.out.kg.cell 0
          simp only [List.getElem?_cons_zero] at y0
          have htk := Tm.wts_take ts i hlt
          have hml := Tm.mets_len bd (ts.take i) out1
          have hmt := Tm.mets_take bd out1 ts i hlt
          rw [hme] at htk hmt
          have HMT := Lib.hid hmt
          have hnl := HBD.out
          have HB2 := Lib.hid (show Below wr.heap.size wr (wr.alloc (.cells #[.int .i64 v', .string f', .slice Ai us.length ci] 24)) from Below.alloc (Below.refl _ _) (Nat.le_refl _) _)
          have HC := Lib.hid (ih v' f' us S _ Ai ci base gb go gg Ab cb bd _ v2 (by omega) (by omega) (by omega) (by omega) (hsti.stay (Stay.below HB2.out)) (HM.out.below HB2.out))
          have HLT := Lib.hid hlt
          have hIL : (i : Int) ≤ 1152921504606846976 := by omega
          clear hstr hsti hme htk hml hmt hnl
          go_wp2_with fail
          refine HC.out.mono ?_
          rintro e w2 ⟨rfl, v3, hm3, hf3, ho3⟩
          have HM3 := Lib.hid hm3
          have HF3 := Lib.hid ((HF.out.trans (Fr.of_below (S := fun i => i = go ∨ own = some i) HB2.out (Nat.le_refl _)) (fun i _ h => h)).trans hf3 (fun i hi h => by
            rcases h with h | h
            · exact Or.inl h
            · rcases HO.out i h with h | h
              · exact Or.inr h
              · exact absurd hi (by omega)))
          have HO3 : Hid (∀ g, v3.ownBlock = some g → own = some g ∨ w.heap.size ≤ g) := Lib.hid (fun g hg => by
            rcases ho3 g hg with h | h
            · exact HO.out g h
            · have h1 := HB2.out.size
              have h2 := HF.out.size
              exact Or.inr (by omega))
          clear hm3 hf3 ho3 HC HB2 HF HO HM y0 k0 k1 k2 hgl hgn hgn'
          go_wp2_with fail
          go_roundw
          case rel => exact ⟨i + 1, v3, by go_num, HLT.out, by rw [HMT.out]; exact HM3.out, HF3.out, HO3.out⟩
          case measure => have := HLT.out; simp [intOf]; omega
        · obtain rfl : i = ts.length := by omega
          have hm := HM.out
          rw [List.take_length] at hm
          have HMX := Lib.hid hm
          have d1 : decide (ts.length < ts.length) = false := by simp
          clear hm HM
          go_wp2_with fail
          refine bodyPost_end (v := .tuple #[]) ?_ rfl ⟨rfl, v2, HMX.out, HF.out, HO.out⟩
          simp [results, Tryz.results98, go_sem]
end Go.Proofs.YtndjjnnljihmnaaGreat
