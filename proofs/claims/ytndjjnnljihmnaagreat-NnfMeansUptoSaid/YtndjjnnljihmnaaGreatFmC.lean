/- When terms and formulas are the same: contracts of Same, of the package's and of the reference's. -/
import Derived.Test.YtndjjnnljihmnaaGreatFmB
import Derived.StillTailTactics
namespace Go.Proofs.YtndjjnnljihmnaaGreat
open Go.RowKit
set_option linter.unusedVariables false
set_option linter.unusedSimpArgs false
def seq (a b : ByteArray) : Bool := a.toList == b.toList
mutual
def Tm.same : Tm → Tm → Bool
  | .mk v f ts, .mk v' f' ts' => (v == v') && (seq f f' && Tm.sames ts ts')
def Tm.sames : List Tm → List Tm → Bool
  | [], [] => true
  | t :: r, t' :: r' => Tm.same t t' && Tm.sames r r'
  | [], _ :: _ => false
  | _ :: _, [] => false
end
mutual
def Fm.same : Fm → Fm → Bool
  | .mk k n l r ts, .mk k' n' l' r' ts' => (k == k') && (seq n n' && (l.same l' && (r.same r' && Fm.sames ts ts')))
def Fm.sames : List Fm → List Fm → Bool
  | [], [] => true
  | t :: r, t' :: r' => Fm.same t t' && Fm.sames r r'
  | [], _ :: _ => false
  | _ :: _, [] => false
end
theorem Tm.sames_len : ∀ (ts us : List Tm), Tm.sames ts us = true → ts.length = us.length
  | [], [], _ => rfl
  | t :: r, u :: s, h => by
    simp only [Tm.sames, Bool.and_eq_true] at h
    simp [Tm.sames_len r s h.2]
  | [], _ :: _, h => by simp [Tm.sames] at h
  | _ :: _, [], h => by simp [Tm.sames] at h
theorem Fm.sames_len : ∀ (ts us : List Fm), Fm.sames ts us = true → ts.length = us.length
  | [], [], _ => rfl
  | t :: r, u :: s, h => by
    simp only [Fm.sames, Bool.and_eq_true] at h
    simp [Fm.sames_len r s h.2]
  | [], _ :: _, h => by simp [Fm.sames] at h
  | _ :: _, [], h => by simp [Fm.sames] at h
theorem Tm.sames_drop (ts us : List Tm) (i : Nat) (h : i < ts.length) (h' : i < us.length) : Tm.sames (ts.drop i) (us.drop i) = (Tm.same ts[i] us[i] && Tm.sames (ts.drop (i + 1)) (us.drop (i + 1))) := by
  rw [List.drop_eq_getElem_cons h, List.drop_eq_getElem_cons h', Tm.sames]
theorem Fm.sames_drop (ts us : List Fm) (i : Nat) (h : i < ts.length) (h' : i < us.length) : Fm.sames (ts.drop i) (us.drop i) = (Fm.same ts[i] us[i] && Fm.sames (ts.drop (i + 1)) (us.drop (i + 1))) := by
  rw [List.drop_eq_getElem_cons h, List.drop_eq_getElem_cons h', Fm.sames]
mutual
/-- How many parts and letters a term has. -/
def Tm.wt : Tm → Nat
  | .mk _ f ts => 1 + f.size + Tm.wts ts
def Tm.wts : List Tm → Nat
  | [] => 0
  | t :: r => Tm.wt t + Tm.wts r
end
theorem Tm.wts_le : ∀ (ts : List Tm) (i : Nat) (h : i < ts.length), Tm.wt ts[i] ≤ Tm.wts ts
  | t :: r, 0, _ => by simp [Tm.wts]
  | t :: r, i + 1, h => by
    have := Tm.wts_le r i (by simpa using h)
    simp only [Tm.wts, List.getElem_cons_succ]; omega
mutual
/-- How many parts and letters a formula has; those count that it should not have, too. -/
def Fm.wt : Fm → Nat
  | .mk _ n l r ks => 1 + n.size + (l.wt + r.wt) + Fm.wts ks
def Fm.wts : List Fm → Nat
  | [] => 0
  | t :: r => Fm.wt t + Fm.wts r
end
theorem Fm.wts_le : ∀ (ts : List Fm) (i : Nat) (h : i < ts.length), Fm.wt ts[i] ≤ Fm.wts ts
  | t :: r, 0, _ => by simp [Fm.wts]
  | t :: r, i + 1, h => by
    have := Fm.wts_le r i (by simpa using h)
    simp only [Fm.wts, List.getElem_cons_succ]; omega
theorem ret_bool {a b : Bool} (h : a = b) : Ending.returned (.bool a) = .returned (.bool b) := by rw [h]
theorem ret_int {k : IntKind} {a b : Int} (h : a = b) : Ending.returned (.int k a) = .returned (.int k b) := by rw [h]

/-- term.Same, up to a size. -/
def SameAt (fn : Nat) (N : Nat) : Prop := ∀ (v : Int) (f : ByteArray) (ts : List Tm) (v' : Int) (f' : ByteArray) (ts' : List Tm) (S S' : Nat → Prop) (w : World) (A : Option Addr) (c : Nat) (A' : Option Addr) (c' : Nat), (Tm.mk v f ts).size ≤ N → ST S w A ts.length c ts → ST S' w A' ts'.length c' ts' →
    Calls Tryz.prog fn #[.agg #[.int .i64 v, .string f, .slice A ts.length c], .agg #[.int .i64 v', .string f', .slice A' ts'.length c']] w fun e w' => e = .returned (.bool ((Tm.mk v f ts).same (.mk v' f' ts'))) ∧ Below w.heap.size w w'
set_option maxHeartbeats 1600000 in
theorem equalT (N : Nat) (ih : SameAt 61 N) (ts ts' : List Tm) (S S' : Nat → Prop) (w : World) (A : Option Addr) (c : Nat) (A' : Option Addr) (c' : Nat) (hs : Tm.sizes ts ≤ N) (h : ST S w A ts.length c ts) (h' : ST S' w A' ts'.length c' ts') (hl' : ts'.length ≤ 9223372036854775807) :
    Calls Tryz.prog 85 #[.slice A ts.length c, .slice A' ts'.length c', .func (.func 61) #[] #[]] w fun e w' => e = .returned (.bool (Tm.sames ts ts')) ∧ Below w.heap.size w w' := by
  have hl := h.2.2.1
  have HST := Lib.hid h
  have HST' := Lib.hid h'
  have HS := Lib.hid hs
  have IH := Lib.hid ih
  by_cases hlen : ts.length = ts'.length
  · have hlt : ts.length ≤ 9223372036854775807 := by omega
    have d0 : (ts.length == ts'.length) = true := by simpa using hlen
    have d1 : ((ts.length : Int) == (ts'.length : Int)) = true := by simp; omega
    have d2 : ((ts.length : Int) != (ts'.length : Int)) = false := by simp; omega
    have HLEN := Lib.hid hlen
    clear h h' hs ih hl hlen
    go_enter Tryz.func85, Tryz.ntmps85
    go_wp2_with fail
    go_loopw [17] (fun vi wl => ∃ i : Nat, i ≤ ts.length ∧ vi = .int .i64 i ∧ Tm.sames ts ts' = Tm.sames (ts.drop i) (ts'.drop i) ∧ Below w.heap.size w wl) (fun vi _ => ts.length - (intOf vi).toNat)
    case atStart => exact ⟨0, by omega, rfl, rfl, Below.refl _ _⟩
    case round =>
      obtain ⟨i, hi, rfl, hk, hb⟩ := hrel
      have HK := Lib.hid hk
      have HB := Lib.hid hb
      have hbs := hb.size
      clear hk hb
      by_cases hlt : i < ts.length
      · obtain ⟨b, o, hA, v1, f1, us, Ai, ci, hm, hsti, k0, k1, k2⟩ := (HST.out.stay (Stay.below HB.out)).at i hlt
        obtain ⟨b', o', hA', v2, f2, us', Ai', ci', hm', hsti', l0, l1, l2⟩ := (HST'.out.stay (Stay.below HB.out)).at i (by have := HLEN.out; omega)
        subst hA hA'
        have hd := Tm.sames_drop ts ts' i hlt (by have := HLEN.out; omega)
        rw [hm, hm'] at hd
        have hIN : (Tm.mk v1 f1 us).size ≤ N := by
          have h1 := Tm.sizes_le ts i hlt
          rw [hm] at h1
          have := HS.out; omega
        have HI := Lib.hid (And.intro hIN hlt)
        have HD := Lib.hid hd
        have H1 := Lib.hid hsti
        have H2 := Lib.hid hsti'
        have hlt' : i < ts'.length := by have := HLEN.out; omega
        clear hd hIN hm hm' hsti hsti'
        have hx0 := World.block_lt_of_cell? wr _ k0
        have hx1 := World.block_lt_of_cell? wr _ l0
        go_wp2_with fail
        refine (IH.out v1 f1 us v2 f2 us' S S' _ Ai ci Ai' ci' HI.out.1 (H1.out.stay (Stay.below (by exact ((Below.refl _ wr).alloc (Nat.le_refl _) _).alloc (by simp) _))) (H2.out.stay (Stay.below (by exact ((Below.refl _ wr).alloc (Nat.le_refl _) _).alloc (by simp) _)))).mono ?_
        rintro e w2 ⟨rfl, hb2⟩
        have HB2 := Lib.hid (((HB.out.alloc hbs _).alloc (by simp; omega) _).trans (hb2.mono (by simp; omega)))
        clear hb2
        cases hq : (Tm.mk v1 f1 us).same (.mk v2 f2 us')
        · have HF := Lib.hid (show Tm.sames ts ts' = false by rw [HK.out, HD.out, hq]; rfl)
          go_wp2_with fail
          go_ret
          exact ⟨ret_bool (by rw [HF.out]), HB2.out⟩
        · have HF := Lib.hid (show Tm.sames ts ts' = Tm.sames (ts.drop (i + 1)) (ts'.drop (i + 1)) by rw [HK.out, HD.out, hq]; rfl)
          go_wp2_with fail
          go_roundw
          case rel => exact ⟨i + 1, HI.out.2, by go_num, HF.out, HB2.out⟩
          case measure => have := HI.out.2; simp [intOf]; omega
      · obtain rfl : i = ts.length := by omega
        have HF := Lib.hid (show Tm.sames ts ts' = true by rw [HK.out, List.drop_length, HLEN.out, List.drop_length]; rfl)
        have d3 : decide (ts.length < ts.length) = false := by simp
        go_wp2_with fail
        go_ret
        exact ⟨ret_bool (by rw [HF.out]), HB.out⟩
  · have HF := Lib.hid (show Tm.sames ts ts' = false by
      cases hq : Tm.sames ts ts' with
      | false => rfl
      | true => exact absurd (Tm.sames_len ts ts' hq) hlen)
    have d1 : ((ts.length : Int) == (ts'.length : Int)) = false := by simp; omega
    have d2 : ((ts.length : Int) != (ts'.length : Int)) = true := by simp; omega
    clear h h' hs ih hl
    go_enter Tryz.func85, Tryz.ntmps85
    go_wp2_with fail
    go_ret
    exact ⟨ret_bool (by rw [HF.out]), Below.refl _ _⟩
set_option maxHeartbeats 1600000 in
theorem tsame : ∀ N, SameAt 61 N := by
  intro N
  induction N with
  | zero => intro v f ts v' f' ts' S S' w A c A' c' h; have := Tm.size_pos (.mk v f ts); omega
  | succ N ih =>
    intro v f ts v' f' ts' S S' w A c A' c' h h1 h2
    have hsz : Tm.sizes ts ≤ N := by rw [Tm.size] at h; omega
    have hv : (Tm.mk v f ts).same (.mk v' f' ts') = ((v == v') && (seq f f' && Tm.sames ts ts')) := by rw [Tm.same]
    have HE := Lib.hid (fun w' (hb : Below w.heap.size w w') => equalT N ih ts ts' S S' w' A c A' c' hsz (h1.stay (Stay.below hb)) (h2.stay (Stay.below hb)) h2.2.2.1)
    rw [hv]
    clear hv h1 h2 ih h hsz
    have hb0 : Below w.heap.size w ((w.alloc (.cells #[.int .i64 v, .string f, .slice A ts.length c] 24)).alloc (.cells #[.int .i64 v', .string f', .slice A' ts'.length c'] 24)) := ((Below.refl _ w).alloc (Nat.le_refl _) _).alloc (by simp) _
    have HB0 := Lib.hid hb0
    clear hb0
    cases d1 : (v == v')
    · go_enter Tryz.func61, Tryz.ntmps61
      go_wp2_with fail
      go_ret
      exact ⟨ret_bool (by simp), HB0.out⟩
    · cases d2 : (f.toList == f'.toList)
      · have HD2 := Lib.hid (show seq f f' = _ from d2)
        go_enter Tryz.func61, Tryz.ntmps61
        go_wp2_with fail
        go_ret
        exact ⟨ret_bool (by rw [HD2.out]; simp), HB0.out⟩
      · have HD2 := Lib.hid (show seq f f' = _ from d2)
        go_enter Tryz.func61, Tryz.ntmps61
        go_wp2_with fail
        refine (HE.out _ HB0.out).mono ?_
        rintro e w2 ⟨rfl, hb2⟩
        have HB2 := Lib.hid (HB0.out.trans (hb2.mono HB0.out.size))
        clear hb2
        go_wp2_with fail
        go_ret
        exact ⟨ret_bool (by rw [HD2.out]; simp), HB2.out⟩
set_option maxRecDepth 100000 in
set_option maxHeartbeats 1600000 in
theorem rtsame : ∀ N, SameAt 22 N := by
  intro N
  induction N with
  | zero => intro v f ts v' f' ts' S S' w A c A' c' h; have := Tm.size_pos (.mk v f ts); omega
  | succ N ih =>
    intro v f ts v' f' ts' S S' w A c A' c' h h1 h2
    have hsz : Tm.sizes ts ≤ N := by rw [Tm.size] at h; omega
    have hl := h1.2.2.1
    have hv : (Tm.mk v f ts).same (.mk v' f' ts') = ((v == v') && (seq f f' && Tm.sames ts ts')) := by rw [Tm.same]
    have hlb : ts.length ≤ 9223372036854775807 := by omega
    have hlb' : ts'.length ≤ 9223372036854775807 := h2.2.2.1
    have HST := Lib.hid h1
    have HST' := Lib.hid h2
    have IH := Lib.hid ih
    have HS := Lib.hid hsz
    have HB0 := Lib.hid (bel_two (w := w) (o := .cells #[.int .i64 v, .string f, .slice A ts.length c] 24) (p := .cells #[.int .i64 v', .string f', .slice A' ts'.length c'] 24))
    rw [hv]
    clear hv h1 h2 ih h hsz hl
    cases d1 : (v == v')
    · have d1' : (v != v') = true := by simpa [bne] using d1
      go_enter Tryz.func22, Tryz.ntmps22
      go_wp2_with fail
      go_ret
      exact ⟨ret_bool (by simp), HB0.out⟩
    · have d1' : (v != v') = false := by simpa [bne] using d1
      cases d2 : (f.toList == f'.toList)
      · have HD2 := Lib.hid (show seq f f' = _ from d2)
        go_enter Tryz.func22, Tryz.ntmps22
        go_wp2_with fail
        go_ret
        exact ⟨ret_bool (by rw [HD2.out]; simp), HB0.out⟩
      · have HD2 := Lib.hid (show seq f f' = _ from d2)
        by_cases hlen : ts.length = ts'.length
        · have e1 : ((ts.length : Int) == (ts'.length : Int)) = true := by simp; omega
          have e2 : ((ts.length : Int) != (ts'.length : Int)) = false := by simp; omega
          have HLEN := Lib.hid hlen
          clear hlen
          go_enter Tryz.func22, Tryz.ntmps22
          go_wp2_with fail
          go_loopw [5] (fun vi wl => ∃ i : Nat, i ≤ ts.length ∧ vi = .int .i64 i ∧ Tm.sames ts ts' = Tm.sames (ts.drop i) (ts'.drop i) ∧ Below (w.heap.size + 2) ((w.alloc (.cells #[.int .i64 v, .string f, .slice A ts.length c] 24)).alloc (.cells #[.int .i64 v', .string f', .slice A' ts'.length c'] 24)) wl) (fun vi _ => ts.length - (intOf vi).toNat)
          case atStart => exact ⟨0, by omega, rfl, rfl, Below.refl _ _⟩
          case round =>
            obtain ⟨i, hi, rfl, hk, hb⟩ := hrel
            have HK := Lib.hid hk
            have HB := Lib.hid hb
            have r0 := box2_fst hb 2 _ rfl
            have r1 := box2_snd hb 2 _ rfl
            clear hk hb
            by_cases hlt : i < ts.length
            · obtain ⟨b, o, hA, v1, f1, us, Ai, ci, hm, hsti, k0, k1, k2⟩ := (HST.out.stay (Stay.below (bel_box2 HB.out))).at i hlt
              obtain ⟨b', o', hA', v2, f2, us', Ai', ci', hm', hsti', l0, l1, l2⟩ := (HST'.out.stay (Stay.below (bel_box2 HB.out))).at i (by have := HLEN.out; omega)
              subst hA hA'
              have hd := Tm.sames_drop ts ts' i hlt (by have := HLEN.out; omega)
              rw [hm, hm'] at hd
              have hIN : (Tm.mk v1 f1 us).size ≤ N := by
                have h1 := Tm.sizes_le ts i hlt
                rw [hm] at h1
                have := HS.out; omega
              have HI := Lib.hid (And.intro hIN hlt)
              have HD := Lib.hid hd
              have H1 := Lib.hid hsti
              have H2 := Lib.hid hsti'
              have hlt' : i < ts'.length := by have := HLEN.out; omega
              clear hd hIN hm hm' hsti hsti'
              have p1 : (i : Int) < (ts.length : Int) := by omega
              have p2 : (i : Int) < (ts'.length : Int) := by omega
              go_wp2_with fail
              go_still_tail 10, (by kernel_rfl)
              have HBd : Hid (Below (w.heap.size + 2) ((w.alloc (.cells #[.int .i64 v, .string f, .slice (some ⟨b, o, none⟩) ts.length c] 24)).alloc (.cells #[.int .i64 v', .string f', .slice (some ⟨b', o', none⟩) ts'.length c'] 24)) wr.drew) := Lib.hid ⟨HB.out.os, HB.out.tape, HB.out.output, HB.out.size, HB.out.block⟩
              have HD1 : Hid (ST S wr.drew Ai us.length ci us) := Lib.hid (H1.out.stay (Stay.below ⟨rfl, rfl, rfl, Nat.le_refl _, fun _ _ => rfl⟩))
              have HD2' : Hid (ST S' wr.drew Ai' us'.length ci' us') := Lib.hid (H2.out.stay (Stay.below ⟨rfl, rfl, rfl, Nat.le_refl _, fun _ _ => rfl⟩))
              change wpList _ _ _ _ _ wr.drew
              clear r0 r1 k0 k1 k2 l0 l1 l2 H1 H2
              generalize wr.drew = wd at *
              go_wp2_with fail
              refine (IH.out v1 f1 us v2 f2 us' S S' wd Ai ci Ai' ci' HI.out.1 HD1.out HD2'.out).mono ?_
              rintro e w2 ⟨rfl, hb2⟩
              have HB2 := Lib.hid (bel_step2 HBd.out hb2)
              clear hb2
              cases hq : (Tm.mk v1 f1 us).same (.mk v2 f2 us')
              · have HF := Lib.hid (show Tm.sames ts ts' = false by rw [HK.out, HD.out, hq]; rfl)
                go_wp2_with fail
                go_ret
                exact ⟨ret_bool (by rw [HF.out]; simp), bel_box2 HB2.out⟩
              · have HF := Lib.hid (show Tm.sames ts ts' = Tm.sames (ts.drop (i + 1)) (ts'.drop (i + 1)) by rw [HK.out, HD.out, hq]; rfl)
                go_wp2_with fail
                go_roundw
                case rel => exact ⟨i + 1, HI.out.2, by go_num, HF.out, HB2.out⟩
                case measure => have := HI.out.2; simp [intOf]; omega
            · obtain rfl : i = ts.length := by omega
              have HF := Lib.hid (show Tm.sames ts ts' = true by rw [HK.out, List.drop_length, HLEN.out, List.drop_length]; rfl)
              have d3 : decide (ts.length < ts.length) = false := by simp
              go_wp2_with fail
              go_ret
              exact ⟨ret_bool (by rw [HF.out, HD2.out]; rfl), bel_box2 HB.out⟩
        · have HF := Lib.hid (show Tm.sames ts ts' = false by
            cases hq : Tm.sames ts ts' with
            | false => rfl
            | true => exact absurd (Tm.sames_len ts ts' hq) hlen)
          have e1 : ((ts.length : Int) == (ts'.length : Int)) = false := by simp; omega
          have e2 : ((ts.length : Int) != (ts'.length : Int)) = true := by simp; omega
          clear hlen
          go_enter Tryz.func22, Tryz.ntmps22
          go_wp2_with fail
          go_ret
          exact ⟨ret_bool (by rw [HF.out]; simp), HB0.out⟩
end Go.Proofs.YtndjjnnljihmnaaGreat
