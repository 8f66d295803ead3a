/- What turning and pushing keep: shapes, names, bounds; what was turned or pushed is left as it is by turning or pushing it again. -/
import Derived.Test.YtndjjnnljihmnaaGreatFmN
import Derived.Test.YtndjjnnljihmnaaGreatFmZ
namespace Go.Proofs.YtndjjnnljihmnaaGreat
open Go.RowKit Go.Proofs.YtndjjnnljihmnaaGreat.Lx
set_option linter.unusedVariables false
set_option linter.unusedSimpArgs false
theorem toList_nil {f : ByteArray} (h : f.toList.isEmpty = true) : f = ⟨#[]⟩ := by
  rw [Lib.toList_data] at h
  obtain ⟨⟨l⟩⟩ := f
  cases l with
  | nil => rfl
  | cons a r => cases h
theorem none_eq {t : Tm} (h : t.none = true) : t = .mk 0 ⟨#[]⟩ [] := by
  obtain ⟨v, f, ts⟩ := t
  rw [Tm.none] at h
  simp only [Bool.and_eq_true, beq_iff_eq] at h
  obtain ⟨h1, h2, h3⟩ := h
  rw [toList_nil h1, h2, List.eq_nil_of_length_eq_zero h3]
theorem head_zero {k : Int} {n : ByteArray} {l r : Tm} {m : Nat} (hk : k ≠ 1) (h : headF k n l r m = true) : l = .mk 0 ⟨#[]⟩ [] ∧ r = .mk 0 ⟨#[]⟩ [] := by
  unfold headF at h
  simp only [Bool.and_eq_true, beq_iff_eq] at h
  have h2 := h.2.2
  rw [if_neg hk, Bool.and_eq_true] at h2
  exact ⟨none_eq h2.1, none_eq h2.2⟩
theorem head_name {k : Int} {n : ByteArray} {l r : Tm} {m : Nat} (hk : k ≠ 7 ∧ k ≠ 8) (h : headF k n l r m = true) : n = ⟨#[]⟩ := by
  unfold headF at h
  simp only [Bool.and_eq_true, beq_iff_eq] at h
  have h2 := h.2.1
  rw [if_neg (by simp only [Bool.or_eq_true, beq_iff_eq]; omega)] at h2
  exact toList_nil h2
/-! ### names no longer than M -/
mutual
def Tm.le (M : Nat) : Tm → Prop
  | .mk _ f ts => f.size ≤ M ∧ Tm.les M ts
def Tm.les (M : Nat) : List Tm → Prop
  | [] => True
  | t :: r => Tm.le M t ∧ Tm.les M r
end
mutual
def Fm.le (M : Nat) : Fm → Prop
  | .mk _ n l r ks => n.size ≤ M ∧ l.le M ∧ r.le M ∧ Fm.les M ks
def Fm.les (M : Nat) : List Fm → Prop
  | [] => True
  | t :: r => Fm.le M t ∧ Fm.les M r
end
mutual
theorem Tm.le_wt {M : Nat} : ∀ t : Tm, t.wt ≤ M → t.le M
  | .mk v f ts, h => by
    rw [Tm.wt] at h
    rw [Tm.le]
    exact ⟨by omega, Tm.les_wt ts (by omega)⟩
theorem Tm.les_wt {M : Nat} : ∀ ts : List Tm, Tm.wts ts ≤ M → Tm.les M ts
  | [], _ => by rw [Tm.les]; trivial
  | t :: r, h => by
    rw [Tm.wts] at h
    rw [Tm.les]
    exact ⟨Tm.le_wt t (by omega), Tm.les_wt r (by omega)⟩
end
mutual
theorem Fm.le_wt {M : Nat} : ∀ f : Fm, f.wt ≤ M → f.le M
  | .mk k n l r ks, h => by
    rw [Fm.wt] at h
    rw [Fm.le]
    exact ⟨by omega, Tm.le_wt l (by omega), Tm.le_wt r (by omega), Fm.les_wt ks (by omega)⟩
theorem Fm.les_wt {M : Nat} : ∀ ts : List Fm, Fm.wts ts ≤ M → Fm.les M ts
  | [], _ => by rw [Fm.les]; trivial
  | t :: r, h => by
    rw [Fm.wts] at h
    rw [Fm.les]
    exact ⟨Fm.le_wt t (by omega), Fm.les_wt r (by omega)⟩
end
mutual
theorem Tm.wt_le {M : Nat} : ∀ t : Tm, t.le M → t.wt ≤ t.size * (M + 1)
  | .mk v f ts, h => by
    rw [Tm.le] at h
    have := Tm.wts_of ts h.2
    rw [Tm.wt, Tm.size, Nat.add_mul]
    omega
theorem Tm.wts_of {M : Nat} : ∀ ts : List Tm, Tm.les M ts → Tm.wts ts ≤ Tm.sizes ts * (M + 1)
  | [], _ => by rw [Tm.wts]; omega
  | t :: r, h => by
    rw [Tm.les] at h
    have h1 := Tm.wt_le t h.1
    have h2 := Tm.wts_of r h.2
    rw [Tm.wts, Tm.sizes, Nat.add_mul]
    omega
end
theorem nil_wt : (Tm.mk 0 ⟨#[]⟩ []).wt = 1 := by rw [Tm.wt, Tm.wts]; rfl
theorem nil_le (M : Nat) : (Tm.mk 0 ⟨#[]⟩ []).le M := by rw [Tm.le, Tm.les]; exact ⟨Nat.zero_le _, trivial⟩
theorem nil_size : (⟨#[]⟩ : ByteArray).size = 0 := rfl
mutual
theorem Fm.wt_le {M : Nat} : ∀ f : Fm, f.shape = true → f.le M → f.wt ≤ f.size * (M + 3)
  | .mk k n l r ks, hs, h => by
    rw [Fm.shape, Bool.and_eq_true] at hs
    rw [Fm.le] at h
    have h1 := Fm.wts_of ks hs.2 h.2.2.2
    by_cases hk : k = 1
    · subst hk
      have e := head_name (by decide) hs.1
      subst e
      have hl := Tm.wt_le l h.2.1
      have hr := Tm.wt_le r h.2.2.1
      have a1 : l.size * (M + 1) ≤ l.size * (M + 3) := Nat.mul_le_mul_left _ (by omega)
      have a2 : r.size * (M + 1) ≤ r.size * (M + 3) := Nat.mul_le_mul_left _ (by omega)
      rw [Fm.wt, Fm.size, if_pos rfl, nil_size, Nat.add_mul, Nat.add_mul, Nat.add_mul]
      omega
    · obtain ⟨rfl, rfl⟩ := head_zero hk hs.1
      rw [Fm.wt, Fm.size, if_neg hk, Nat.add_mul, nil_wt]
      omega
theorem Fm.wts_of {M : Nat} : ∀ ks : List Fm, Fm.shapes ks = true → Fm.les M ks → Fm.wts ks ≤ Fm.sizes ks * (M + 3)
  | [], _, _ => by rw [Fm.wts]; omega
  | f :: r, hs, h => by
    rw [Fm.shapes, Bool.and_eq_true] at hs
    rw [Fm.les] at h
    have h1 := Fm.wt_le f hs.1 h.1
    have h2 := Fm.wts_of r hs.2 h.2
    rw [Fm.wts, Fm.sizes, Nat.add_mul]
    omega
end
mutual
/-- How many quantifiers. -/
def Fm.qn : Fm → Nat
  | .mk k _ _ _ ks => (if k = 7 ∨ k = 8 then 1 else 0) + Fm.qns ks
def Fm.qns : List Fm → Nat
  | [] => 0
  | f :: r => Fm.qn f + Fm.qns r
end
mutual
theorem Fm.lf_qn : ∀ f : Fm, f.shape = true → f.lf + f.qn ≤ f.size
  | .mk k n l r ks, hs => by
    have hs' := hs
    rw [Fm.shape, Bool.and_eq_true] at hs'
    have hL := Fm.lfs_qns ks hs'.2
    rcases shape_cases hs with ⟨hk, rfl⟩ | ⟨hk, a, rfl, ha⟩ | ⟨hk, a, b, rfl, ha, hb⟩
    · rw [Fm.lf, Fm.qn, Fm.size, if_neg (by omega), Fm.lfs, Fm.qns, Fm.sizes]
      split <;> omega
    · have := a.lf_pos
      rw [Fm.lfs, Fm.lfs, Fm.qns, Fm.qns, Fm.sizes, Fm.sizes] at hL
      rw [Fm.lf, Fm.qn, Fm.size, if_neg (show ¬ k = 1 by omega), Fm.lfs, Fm.lfs, Fm.qns, Fm.qns, Fm.sizes, Fm.sizes]
      split <;> omega
    · have := a.lf_pos
      have := b.lf_pos
      rw [Fm.lfs, Fm.lfs, Fm.lfs, Fm.qns, Fm.qns, Fm.qns, Fm.sizes, Fm.sizes, Fm.sizes] at hL
      rw [Fm.lf, Fm.qn, Fm.size, if_neg (show ¬ k = 1 by omega), Fm.lfs, Fm.lfs, Fm.lfs, Fm.qns, Fm.qns, Fm.qns, Fm.sizes, Fm.sizes, Fm.sizes]
      split <;> omega
theorem Fm.lfs_qns : ∀ ks : List Fm, Fm.shapes ks = true → Fm.lfs ks + Fm.qns ks ≤ Fm.sizes ks
  | [], _ => by rw [Fm.lfs, Fm.qns]; omega
  | f :: r, h => by
    rw [Fm.shapes, Bool.and_eq_true] at h
    have h1 := Fm.lf_qn f h.1
    have h2 := Fm.lfs_qns r h.2
    rw [Fm.lfs, Fm.qns, Fm.sizes]
    omega
end
mutual
theorem Fm.qs_qn {M : Nat} : ∀ f : Fm, f.shape = true → f.le M → f.qs ≤ f.qn * M + 3 * f.size
  | .mk k n l r ks, hs, h => by
    rw [Fm.shape, Bool.and_eq_true] at hs
    rw [Fm.le] at h
    have h1 := Fm.qss_qns ks hs.2 h.2.2.2
    by_cases hk : k = 7 ∨ k = 8
    · rw [Fm.qs, Fm.qn, Fm.size, if_pos hk, Nat.add_mul]
      split <;> omega
    · have e := head_name (by omega) hs.1
      subst e
      rw [Fm.qs, Fm.qn, Fm.size, if_neg hk, nil_size, Nat.add_mul]
      split <;> omega
theorem Fm.qss_qns {M : Nat} : ∀ ks : List Fm, Fm.shapes ks = true → Fm.les M ks → Fm.qss ks ≤ Fm.qns ks * M + 3 * Fm.sizes ks
  | [], _, _ => by rw [Fm.qss]; omega
  | f :: r, hs, h => by
    rw [Fm.shapes, Bool.and_eq_true] at hs
    rw [Fm.les] at h
    have h1 := Fm.qs_qn f hs.1 h.1
    have h2 := Fm.qss_qns r hs.2 h.2
    rw [Fm.qss, Fm.qns, Fm.sizes, Nat.add_mul]
    omega
end
theorem c_le (M : Nat) (k : Int) : (Fm.c k).le M := by rw [Fm.c, Fm.le, Fm.les]; exact ⟨Nat.zero_le _, nil_le M, nil_le M, trivial⟩
/-! ### pushed again -/
theorem is_one {k : Int} {x : ByteArray} {f : Fm} (hk : k = 7 ∨ k = 8) (h : f.is = true) : (Fm.one k x f).is = true := by
  rw [Fm.one, Fm.is, Fm.iss, Fm.iss, h]
  rcases hk with rfl | rfl <;> rfl
mutual
/-- No quantifier can be pushed. -/
def Fm.put : Fm → Prop
  | .mk k n _ _ ks => ((k = 7 ∨ k = 8) → ∃ a, ks = [a] ∧ a.push k n = Fm.one k n a) ∧ Fm.puts ks
def Fm.puts : List Fm → Prop
  | [] => True
  | f :: r => Fm.put f ∧ Fm.puts r
end
theorem right_zero {f : Fm} (h : f.rightE = 0) : f.shape = true ∧ f.size ≤ 4000 ∧ f.depth ≤ 60 := by
  unfold Fm.rightE at h
  split at h
  · rename_i h1
    split at h
    · omega
    · split at h
      · omega
      · exact ⟨h1, by omega, by omega⟩
  · omega
theorem right_of {f : Fm} (h1 : f.shape = true) (h2 : f.size ≤ 4000) (h3 : f.depth ≤ 60) : f.rightE = 0 := by
  unfold Fm.rightE
  rw [if_pos h1, if_neg (by omega), if_neg (by omega)]
theorem mini_zero {f : Fm} (h : f.miniE = 0) : f.rightE = 0 ∧ f.is = true ∧ f.mini.rightE = 0 ∧ f.miniR = f.mini := by
  have hR : f.miniR = f.mini := by unfold Fm.miniR; rw [if_pos h]
  unfold Fm.miniE at h
  split at h
  · rename_i h1
    split at h
    · rename_i h2
      exact ⟨h1, h2, h, hR⟩
    · omega
  · rename_i h1
    exact absurd h h1
/-! ### turned again -/
mutual
/-- No constant stands in it. -/
def Fm.noc : Fm → Bool
  | .mk k _ _ _ ks => !constI k && Fm.nocs ks
def Fm.nocs : List Fm → Bool
  | [] => true
  | f :: r => Fm.noc f && Fm.nocs r
end
structure Turned (M : Nat) (g : Fm) (m : Fo) : Prop where
  sh : g.shape = true
  is : g.is = true
  t9 : g.kind = 9 ↔ m.k = 9
  t10 : g.kind = 10 ↔ m.k = 10
  con : constI g.kind = true → g = Fm.c g.kind
  noc : constI g.kind = false → g.noc = true
  pos : 0 ≤ m.s
  sz : m.s < 1073741824 → (g.size : Int) = m.s
  dp : (g.depth : Int) = m.d
  nm : g.le M
theorem constI_iff (k : Int) : constI k = true ↔ k = 9 ∨ k = 10 := by unfold constI; simp
theorem head_two0 {k : Int} (hk : k = 3 ∨ k = 4) : headF k ⟨#[]⟩ (.mk 0 ⟨#[]⟩ []) (.mk 0 ⟨#[]⟩ []) 2 = true := by
  unfold headF
  rw [nil_empty, nil_none]
  rcases hk with rfl | rfl <;> rfl
theorem head_not : headF 2 ⟨#[]⟩ (.mk 0 ⟨#[]⟩ []) (.mk 0 ⟨#[]⟩ []) 1 = true := by
  unfold headF
  rw [nil_empty, nil_none]
  rfl
theorem head_c {k : Int} (hk : k = 9 ∨ k = 10) : headF k ⟨#[]⟩ (.mk 0 ⟨#[]⟩ []) (.mk 0 ⟨#[]⟩ []) 0 = true := by
  unfold headF
  rw [nil_empty, nil_none]
  rcases hk with rfl | rfl <;> rfl
theorem Turned.const {M : Nat} {k : Int} (hk : k = 9 ∨ k = 10) : Turned M (Fm.c k) ⟨k, 1, 1⟩ where
  sh := by rw [Fm.c, Fm.shape, List.length_nil, head_c hk, Fm.shapes]; rfl
  is := by rw [Fm.c, Fm.is, Fm.iss]; rcases hk with rfl | rfl <;> rfl
  t9 := Iff.rfl
  t10 := Iff.rfl
  con := fun _ => rfl
  noc := fun h => by have : constI k = true := (constI_iff k).2 hk; rw [show (Fm.c k).kind = k from rfl, this] at h; cases h
  pos := by simp
  sz := fun _ => by rw [Fm.c, Fm.size, Fm.sizes]; rcases hk with rfl | rfl <;> rfl
  dp := by rw [Fm.c, Fm.depth, Fm.depths]; rcases hk with rfl | rfl <;> rfl
  nm := c_le M k
theorem taken_eq {kind a b c d : Int} (h1 : a = 9 ↔ c = 9) (h2 : a = 10 ↔ c = 10) (h3 : b = 9 ↔ d = 9) (h4 : b = 10 ↔ d = 10) : takenI kind a b = takenI kind c d := by
  unfold takenI
  simp only [beq_iff_eq, Bool.or_eq_true, h1, h2, h3, h4]
theorem taken_zero {kind a b : Int} (h : takenI kind a b = 0) : constI a = false ∧ constI b = false := by
  unfold takenI at h
  unfold constI
  simp only [beq_iff_eq, Bool.or_eq_true] at h
  simp only [Bool.or_eq_false_iff, beq_eq_false_iff_ne]
  split at h <;> (split at h; omega; split at h; omega; split at h; omega; omega)
theorem Turned.join {M : Nat} {kind : Int} {a b : Fm} {ma mb : Fo} (hk : kind = 3 ∨ kind = 4) (A : Turned M a ma) (B : Turned M b mb) : Turned M (joinF kind a b) (ma.with kind mb) := by
  have ht := taken_eq (kind := kind) A.t9 A.t10 B.t9 B.t10
  unfold joinF Fo.with
  rw [ht]
  split
  · exact A
  · split
    · exact B
    · split
      · exact Turned.const (by unfold zeroI; rcases hk with rfl | rfl <;> decide)
      · rename_i h1 h2 h3
        have h0 : takenI kind ma.k mb.k = 0 := by rcases taken_cases kind ma.k mb.k with h | h | h | h <;> omega
        have h0' := h0
        rw [← ht] at h0'
        obtain ⟨ca, cb⟩ := taken_zero h0'
        have pa := A.pos
        have pb := B.pos
        have hcf : constI kind = false := by rcases hk with rfl | rfl <;> rfl
        refine ⟨?_, ?_, ?_, ?_, fun h => ?_, fun _ => ?_, ?_, fun h => ?_, ?_, ?_⟩
        · rw [Fm.shape, List.length_cons, List.length_cons, List.length_nil, head_two0 hk, Fm.shapes, Fm.shapes, Fm.shapes, A.sh, B.sh]; rfl
        · rw [Fm.is, Fm.iss, Fm.iss, Fm.iss, A.is, B.is]; rcases hk with rfl | rfl <;> rfl
        · exact Iff.rfl
        · exact Iff.rfl
        · rw [show (Fm.mk kind ⟨#[]⟩ (.mk 0 ⟨#[]⟩ []) (.mk 0 ⟨#[]⟩ []) [a, b]).kind = kind from rfl, hcf] at h; cases h
        · rw [Fm.noc, Fm.nocs, Fm.nocs, Fm.nocs, A.noc ca, B.noc cb, hcf]; rfl
        · simp only; omega
        · simp only at h
          have h1 := A.sz (by omega)
          have h2 := B.sz (by omega)
          rw [Fm.size, if_neg (by omega), Fm.sizes, Fm.sizes, Fm.sizes]
          simp only
          omega
        · have h1 := A.dp
          have h2 := B.dp
          rw [Fm.depth, if_neg (by omega), Fm.depths, Fm.depths, Fm.depths]
          simp only
          omega
        · rw [Fm.le, Fm.les, Fm.les, Fm.les]
          exact ⟨Nat.zero_le _, nil_le M, nil_le M, A.nm, B.nm, trivial⟩
theorem Turned.quant {M : Nat} {kind kind' : Int} {n : ByteArray} {a : Fm} {ma : Fo} (hk : kind = 7 ∨ kind = 8) (hk' : kind' = 7 ∨ kind' = 8) (hn : isVarB (bs n) = true) (hM : n.size ≤ M) (A : Turned M a ma) : Turned M (if constI a.kind then a else Fm.one kind n a) (ma.under kind') := by
  have hcc : constI a.kind = constI ma.k := by
    unfold constI
    have h9 := A.t9
    have h10 := A.t10
    rw [Bool.eq_iff_iff]
    simp only [Bool.or_eq_true, beq_iff_eq]
    omega
  unfold Fo.under
  rw [hcc]
  split
  · exact A
  · rename_i hc
    have ca : constI a.kind = false := by rw [hcc]; simpa using hc
    have pa := A.pos
    have hcf : constI kind = false := by rcases hk with rfl | rfl <;> rfl
    refine ⟨?_, is_one hk A.is, ?_, ?_, fun h => ?_, fun _ => ?_, ?_, fun h => ?_, ?_, ?_⟩
    · rw [Fm.one, Fm.shape, List.length_cons, List.length_nil, head_one hk hn, Fm.shapes, Fm.shapes, A.sh]; rfl
    · simp only [Fm.one, Fm.kind]; omega
    · simp only [Fm.one, Fm.kind]; omega
    · rw [show (Fm.one kind n a).kind = kind from rfl, hcf] at h; cases h
    · rw [Fm.one, Fm.noc, Fm.nocs, Fm.nocs, A.noc ca, hcf]; rfl
    · simp only; omega
    · simp only at h
      have h1 := A.sz (by omega)
      rw [Fm.one, Fm.size, if_neg (by omega), Fm.sizes, Fm.sizes]
      simp only
      omega
    · have h1 := A.dp
      rw [Fm.one, Fm.depth, if_neg (by omega), Fm.depths, Fm.depths]
      simp only
      omega
    · rw [Fm.one, Fm.le, Fm.les, Fm.les]
      exact ⟨hM, nil_le M, nil_le M, A.nm, trivial⟩
theorem Turned.fold {M : Nat} {g : Fm} {m : Fo} (h : Turned M g m) : Turned M (if constI m.k then Fm.c m.k else g) m := by
  have e : (if constI m.k then Fm.c m.k else g) = g := by
    split
    · rename_i hc
      have hg : g.kind = m.k := by
        have h9 := h.t9
        have h10 := h.t10
        rcases (constI_iff _).1 hc with e | e <;> omega
      have := h.con (by rw [hg]; exact hc)
      rw [hg] at this
      exact this.symm
    · rfl
  rw [e]
  exact h
theorem Turned.atom {M : Nat} {n : ByteArray} {l r : Tm} (hs : (Fm.mk 1 n l r []).shape = true) (hM : (Fm.mk 1 n l r []).le M) : Turned M (.mk 1 n l r []) ⟨1, (Fm.mk 1 n l r []).size, (Fm.mk 1 n l r []).depth⟩ where
  sh := hs
  is := by rw [Fm.is, Fm.iss]; rfl
  t9 := Iff.rfl
  t10 := Iff.rfl
  con := fun h => by cases h
  noc := fun _ => by rw [Fm.noc, Fm.nocs]; rfl
  pos := by simp only; omega
  sz := fun _ => rfl
  dp := rfl
  nm := hM
theorem under_at (s d kind : Int) : Fo.under ⟨1, s, d⟩ kind = ⟨kind, min (s + 1) 1073741824, d + 1⟩ := rfl
theorem Turned.nota {M : Nat} {n : ByteArray} {l r : Tm} (hs : (Fm.mk 1 n l r []).shape = true) (hM : (Fm.mk 1 n l r []).le M) : Turned M (Fm.one 2 ⟨#[]⟩ (.mk 1 n l r [])) (Fo.under ⟨1, (Fm.mk 1 n l r []).size, (Fm.mk 1 n l r []).depth⟩ 2) where
  sh := by rw [Fm.one, Fm.shape, List.length_cons, List.length_nil, head_not, Fm.shapes, Fm.shapes, hs]; rfl
  is := by rw [Fm.one, Fm.is, Fm.iss, Fm.iss, Fm.is, Fm.iss]; rfl
  t9 := by simp [Fm.one, Fm.kind, Fo.under, constI]
  t10 := by simp [Fm.one, Fm.kind, Fo.under, constI]
  con := fun h => by cases h
  noc := fun _ => by rw [Fm.one, Fm.noc, Fm.nocs, Fm.nocs, Fm.noc, Fm.nocs]; rfl
  pos := by rw [under_at]; simp only; omega
  sz := fun h => by
    rw [under_at] at h ⊢
    simp only at h ⊢
    rw [Fm.one, Fm.size, if_neg (by decide), Fm.sizes, Fm.sizes]
    omega
  dp := by
    rw [under_at, Fm.one, Fm.depth, if_neg (by decide), Fm.depths, Fm.depths]
    simp only
    omega
  nm := by
    rw [Fm.one, Fm.le, Fm.les, Fm.les]
    exact ⟨Nat.zero_le _, nil_le M, nil_le M, hM, trivial⟩
theorem turned_all {M : Nat} : ∀ N : Nat, ∀ f : Fm, f.wt ≤ N → f.shape = true → f.le M → Turned M f.turn.1 f.meas.1 ∧ Turned M f.turn.2 f.meas.2 := by
  intro N
  induction N with
  | zero => intro f h; have := f.wt_pos; omega
  | succ N ih =>
    rintro ⟨k, n, l, r, ks⟩ hN hs hM
    have hs' := hs
    have hM' := hM
    rw [Fm.shape, Bool.and_eq_true] at hs'
    rw [Fm.le] at hM'
    have hw := hN
    rw [Fm.wt] at hw
    rw [Fm.turn, Fm.meas]
    rcases shape_cases hs with ⟨hk, rfl⟩ | ⟨hk, a, rfl, ha⟩ | ⟨hk, a, b, rfl, ha, hb⟩
    · rcases hk with rfl | rfl | rfl
      · exact ⟨(Turned.atom hs hM).fold, (Turned.nota hs hM).fold⟩
      · exact ⟨Turned.const (Or.inl rfl), Turned.const (Or.inr rfl)⟩
      · exact ⟨Turned.const (Or.inr rfl), Turned.const (Or.inl rfl)⟩
    · have hMa : a.le M := by have := hM'.2.2.2; rw [Fm.les] at this; exact this.1
      have hwa : a.wt ≤ N := by rw [Fm.wts, Fm.wts] at hw; omega
      obtain ⟨A1, A2⟩ := ih a hwa ha hMa
      rw [Fm.turnL, Fm.turnL, Fm.measL, Fm.measL]
      rcases hk with rfl | rfl | rfl
      · exact ⟨A2.fold, A1.fold⟩
      · have hv := (head_var (Or.inl rfl) hs'.1).1
        exact ⟨(A1.quant (kind := 7) (kind' := 7) (Or.inl rfl) (Or.inl rfl) hv hM'.1).fold, (A2.quant (kind := 8) (kind' := 7) (Or.inr rfl) (Or.inl rfl) hv hM'.1).fold⟩
      · have hv := (head_var (Or.inr rfl) hs'.1).1
        exact ⟨(A1.quant (kind := 8) (kind' := 8) (Or.inr rfl) (Or.inr rfl) hv hM'.1).fold, (A2.quant (kind := 7) (kind' := 8) (Or.inl rfl) (Or.inr rfl) hv hM'.1).fold⟩
    · have hMa : a.le M := by have := hM'.2.2.2; rw [Fm.les] at this; exact this.1
      have hMb : b.le M := by have := hM'.2.2.2; rw [Fm.les, Fm.les] at this; exact this.2.1
      have hwa : a.wt ≤ N := by rw [Fm.wts, Fm.wts, Fm.wts] at hw; omega
      have hwb : b.wt ≤ N := by rw [Fm.wts, Fm.wts, Fm.wts] at hw; omega
      obtain ⟨A1, A2⟩ := ih a hwa ha hMa
      obtain ⟨B1, B2⟩ := ih b hwb hb hMb
      rw [Fm.turnL, Fm.turnL, Fm.turnL, Fm.measL, Fm.measL, Fm.measL]
      rcases hk with rfl | rfl | rfl | rfl
      · exact ⟨(A1.join (kind := 3) (Or.inl rfl) B1).fold, (A2.join (kind := 4) (Or.inr rfl) B2).fold⟩
      · exact ⟨(A1.join (kind := 4) (Or.inr rfl) B1).fold, (A2.join (kind := 3) (Or.inl rfl) B2).fold⟩
      · exact ⟨(A2.join (kind := 4) (Or.inr rfl) B1).fold, (A1.join (kind := 3) (Or.inl rfl) B2).fold⟩
      · exact ⟨((A2.join (kind := 4) (Or.inr rfl) B1).join (kind := 3) (Or.inl rfl) (A1.join (kind := 4) (Or.inr rfl) B2)).fold, ((A1.join (kind := 4) (Or.inr rfl) B1).join (kind := 3) (Or.inl rfl) (A2.join (kind := 4) (Or.inr rfl) B2)).fold⟩
theorem min_s {a : Nat} (h : 1 + a < 1073741824) : min ((a : Int) + 1) 1073741824 = ((1 + a : Nat) : Int) := by omega
theorem min_s2 {a b : Nat} (h : 1 + (a + b) < 1073741824) : min ((a : Int) + b + 1) 1073741824 = ((1 + (a + b) : Nat) : Int) := by omega
theorem dp_s (a : Nat) : (a : Int) + 1 = ((a + 1 : Nat) : Int) := by omega
theorem dp_s2 (a b : Nat) : max (a : Int) b + 1 = ((max a b + 1 : Nat) : Int) := by omega
/-- A formula that is turned, without constants: turned again. -/
theorem noc_again : ∀ N : Nat, ∀ f : Fm, f.wt ≤ N → f.shape = true → f.is = true → f.noc = true → f.size < 1073741824 → f.meas.1 = ⟨f.kind, f.size, f.depth⟩ ∧ f.turn.1 = f := by
  intro N
  induction N with
  | zero => intro f h; have := f.wt_pos; omega
  | succ N ih =>
    rintro ⟨k, n, l, r, ks⟩ hN hs hi hc hz
    have hs' := hs
    rw [Fm.shape, Bool.and_eq_true] at hs'
    have hw := hN
    rw [Fm.wt] at hw
    rw [Fm.is, Bool.and_eq_true] at hi
    rw [Fm.noc, Bool.and_eq_true] at hc
    have hkc : constI k = false := by simpa using hc.1
    rw [Fm.turn, Fm.meas]
    rcases shape_cases hs with ⟨hk, rfl⟩ | ⟨hk, a, rfl, ha⟩ | ⟨hk, a, b, rfl, ha, hb⟩
    · rcases hk with rfl | rfl | rfl
      · exact ⟨rfl, rfl⟩
      · cases hkc
      · cases hkc
    · have hwa : a.wt ≤ N := by rw [Fm.wts, Fm.wts] at hw; omega
      have hia : a.is = true := by have := hi.2; rw [Fm.iss, Bool.and_eq_true] at this; exact this.1
      have hca : a.noc = true := by have := hc.2; rw [Fm.nocs, Bool.and_eq_true] at this; exact this.1
      have hk1 : ¬ k = 1 := by omega
      have hza : a.size < 1073741824 := by rw [Fm.size, if_neg hk1, Fm.sizes, Fm.sizes] at hz; omega
      have hzz : (Fm.mk k n l r [a]).size = 1 + a.size := by rw [Fm.size, if_neg hk1, Fm.sizes, Fm.sizes]; omega
      have hdd : (Fm.mk k n l r [a]).depth = a.depth + 1 := by rw [Fm.depth, if_neg hk1, Fm.depths, Fm.depths]; omega
      have hz1 : 1 + a.size < 1073741824 := hzz ▸ hz
      obtain ⟨A1, A2⟩ := ih a hwa ha hia hca hza
      obtain ⟨rfl, rfl⟩ := head_zero hk1 hs'.1
      have hcf : constI a.kind = false := by
        obtain ⟨ka, _, _, _, _⟩ := a
        rw [Fm.noc, Bool.and_eq_true] at hca
        simpa [Fm.kind] using hca.1
      rw [hzz, hdd, Fm.turnL, Fm.turnL, Fm.measL, Fm.measL]
      rcases hk with rfl | rfl | rfl
      · have hn := head_name (by decide) hs'.1
        subst hn
        have h1 : a.kind = 1 := by
          have := hi.1
          unfold headIs at this
          simpa using this
        obtain ⟨ka, na, la, ra, ksa⟩ := a
        have e : ka = 1 := h1
        subst e
        rcases shape_cases ha with ⟨_, rfl⟩ | ⟨h, _⟩ | ⟨h, _⟩
        · refine ⟨?_, ?_⟩
          · rw [Fm.meas]
            show Fo.under ⟨1, _, _⟩ 2 = _
            rw [under_at]
            rw [min_s hz1, dp_s]
            rfl
          · rw [Fm.turn]; rfl
        · omega
        · omega
      · refine ⟨?_, ?_⟩
        · show Fo.under a.meas.1 7 = _
          unfold Fo.under
          rw [A1, if_neg (by rw [hcf]; decide)]
          show (⟨_, min ((a.size : Int) + 1) 1073741824, (a.depth : Int) + 1⟩ : Fo) = _
          rw [min_s hz1, dp_s]
          rfl
        · have e : constI (Fo.under a.meas.1 7).k = false := by unfold Fo.under; rw [A1, if_neg (by rw [hcf]; decide)]; rfl
          show (if constI (Fo.under a.meas.1 7).k then _ else (if constI a.turn.1.kind then a.turn.1 else Fm.one 7 n a.turn.1)) = _
          rw [e, A2, hcf]
          rfl
      · refine ⟨?_, ?_⟩
        · show Fo.under a.meas.1 8 = _
          unfold Fo.under
          rw [A1, if_neg (by rw [hcf]; decide)]
          show (⟨_, min ((a.size : Int) + 1) 1073741824, (a.depth : Int) + 1⟩ : Fo) = _
          rw [min_s hz1, dp_s]
          rfl
        · have e : constI (Fo.under a.meas.1 8).k = false := by unfold Fo.under; rw [A1, if_neg (by rw [hcf]; decide)]; rfl
          show (if constI (Fo.under a.meas.1 8).k then _ else (if constI a.turn.1.kind then a.turn.1 else Fm.one 8 n a.turn.1)) = _
          rw [e, A2, hcf]
          rfl
    · have hwa : a.wt ≤ N := by rw [Fm.wts, Fm.wts, Fm.wts] at hw; omega
      have hwb : b.wt ≤ N := by rw [Fm.wts, Fm.wts, Fm.wts] at hw; omega
      have hi2 := hi.2
      rw [Fm.iss, Fm.iss, Bool.and_eq_true, Bool.and_eq_true] at hi2
      have hc2 := hc.2
      rw [Fm.nocs, Fm.nocs, Bool.and_eq_true, Bool.and_eq_true] at hc2
      have hk1 : ¬ k = 1 := by omega
      have hzz : (Fm.mk k n l r [a, b]).size = 1 + (a.size + b.size) := by rw [Fm.size, if_neg hk1, Fm.sizes, Fm.sizes, Fm.sizes]; omega
      have hdd : (Fm.mk k n l r [a, b]).depth = max a.depth b.depth + 1 := by rw [Fm.depth, if_neg hk1, Fm.depths, Fm.depths, Fm.depths]; omega
      have hz1 : 1 + (a.size + b.size) < 1073741824 := hzz ▸ hz
      clear hz
      obtain ⟨A1, A2⟩ := ih a hwa ha hi2.1 hc2.1 (by omega)
      obtain ⟨B1, B2⟩ := ih b hwb hb hi2.2.1 hc2.2.1 (by omega)
      obtain ⟨rfl, rfl⟩ := head_zero hk1 hs'.1
      have hn := head_name (by omega) hs'.1
      subst hn
      have hca : constI a.kind = false := by
        obtain ⟨ka, _, _, _, _⟩ := a
        have := hc2.1
        rw [Fm.noc, Bool.and_eq_true] at this
        simpa [Fm.kind] using this.1
      have hcb : constI b.kind = false := by
        obtain ⟨kb, _, _, _, _⟩ := b
        have := hc2.2.1
        rw [Fm.noc, Bool.and_eq_true] at this
        simpa [Fm.kind] using this.1
      have ht : ∀ kind, takenI kind a.kind b.kind = 0 := fun kind => by
        unfold constI at hca hcb
        simp only [Bool.or_eq_false_iff, beq_eq_false_iff_ne] at hca hcb
        unfold takenI
        simp only [beq_iff_eq, Bool.or_eq_true]
        split
        all_goals rw [if_neg (by omega), if_neg (by omega), if_neg (by omega)]
      have hw2 : ∀ kind, Fo.with a.meas.1 kind b.meas.1 = ⟨kind, (1 + (a.size + b.size) : Nat), (max a.depth b.depth + 1 : Nat)⟩ := fun kind => by
        unfold Fo.with
        rw [A1, B1]
        simp only [ht]
        rw [if_neg (by decide), if_neg (by decide), if_neg (by decide)]
        show (⟨_, min ((a.size : Int) + b.size + 1) 1073741824, max (a.depth : Int) b.depth + 1⟩ : Fo) = _
        rw [min_s2 hz1, dp_s2]
      have hj : ∀ kind, joinF kind a b = .mk kind ⟨#[]⟩ (.mk 0 ⟨#[]⟩ []) (.mk 0 ⟨#[]⟩ []) [a, b] := fun kind => by
        unfold joinF
        simp only [ht]
        rw [if_neg (by decide), if_neg (by decide), if_neg (by decide)]
      rw [hzz, hdd, Fm.turnL, Fm.turnL, Fm.turnL, Fm.measL, Fm.measL, Fm.measL]
      rcases hk with rfl | rfl | rfl | rfl
      · refine ⟨?_, ?_⟩
        · show Fo.with a.meas.1 3 b.meas.1 = _
          rw [hw2]
          rfl
        · show (if constI (Fo.with a.meas.1 3 b.meas.1).k then _ else joinF 3 a.turn.1 b.turn.1) = _
          rw [hw2, A2, B2, hj]
          rfl
      · refine ⟨?_, ?_⟩
        · show Fo.with a.meas.1 4 b.meas.1 = _
          rw [hw2]
          rfl
        · show (if constI (Fo.with a.meas.1 4 b.meas.1).k then _ else joinF 4 a.turn.1 b.turn.1) = _
          rw [hw2, A2, B2, hj]
          rfl
      · cases hi.1
      · cases hi.1
theorem nnf_zero {f : Fm} (h : f.nnfE = 0) : f.rightE = 0 ∧ f.meas.1.s ≤ 4000 ∧ f.meas.1.d ≤ 60 ∧ f.nnfR = f.turn.1 := by
  have hR : f.nnfR = f.turn.1 := by unfold Fm.nnfR; rw [if_pos h]
  unfold Fm.nnfE at h
  split at h
  · rename_i h1
    split at h
    · omega
    · split at h
      · omega
      · exact ⟨h1, by omega, by omega, hR⟩
  · rename_i h1
    exact absurd h h1
/-- What was turned: its names, its size, its shape. -/
theorem nnf_said {M : Nat} {f : Fm} (h : f.nnfE = 0) (hM : f.wt ≤ M) : f.nnfR.shape = true ∧ f.nnfR.is = true ∧ f.nnfR.size ≤ 4000 ∧ f.nnfR.depth ≤ 60 ∧ f.nnfR.le M ∧ f.nnfR.nnfE = 0 ∧ f.nnfR.nnfR = f.nnfR := by
  obtain ⟨h1, h2, h3, h4⟩ := nnf_zero h
  have T := (turned_all (M := M) f.wt f (Nat.le_refl _) (right_zero h1).1 (Fm.le_wt f hM)).1
  have hz := T.sz (by omega)
  have hd := T.dp
  rw [h4]
  have hz' : f.turn.1.size ≤ 4000 := by omega
  have hd' : f.turn.1.depth ≤ 60 := by omega
  have hr := right_of T.sh hz' hd'
  refine ⟨T.sh, T.is, hz', hd', T.nm, ?_⟩
  have key : f.turn.1.meas.1.s ≤ 4000 ∧ f.turn.1.meas.1.d ≤ 60 ∧ f.turn.1.turn.1 = f.turn.1 := by
    cases hc : constI f.turn.1.kind with
    | true =>
      rw [T.con hc]
      rcases (constI_iff _).1 hc with e | e <;> rw [e] <;> exact ⟨by decide, by decide, rfl⟩
    | false =>
      obtain ⟨g1, g2⟩ := noc_again _ _ (Nat.le_refl _) T.sh T.is (T.noc hc) (by omega)
      rw [g1]
      exact ⟨by simp only; omega, by simp only; omega, g2⟩
  have hE : f.turn.1.nnfE = 0 := by
    unfold Fm.nnfE
    rw [if_pos hr, if_neg (by omega), if_neg (by omega)]
  exact ⟨hE, by unfold Fm.nnfR; rw [if_pos hE]; exact key.2.2⟩
end Go.Proofs.YtndjjnnljihmnaaGreat
