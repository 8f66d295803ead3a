/- Both accounts under Take and Give: one contract each for any kind and number. -/
import Derived.Test.YthmllfejnmbfgaaL
namespace Go.Proofs.Ythmllfejnmbfgaa
open Go.RowKit
set_option linter.unusedVariables false
set_option linter.unusedSimpArgs false

def TakePost (a g : Nat) (cs : List Cnt) (k n : Int) (w : World) (e : Ending) (w' : World) : Prop :=
  e = .returned (.int .i64 (takeF cs k n).1) ∧ Acct w' a g (takeF cs k n).2 ∧ Fr (· = g) w w'
def RTakePost (b gl gu gp : Nat) (cs : List Cnt) (k n : Int) (w : World) (e : Ending) (w' : World) : Prop :=
  e = .returned (.int .i64 (takeF cs k n).1) ∧ RAC w' b gl gu gp (takeF cs k n).2 ∧ Fr (fun i => i = gu ∨ i = gp) w w'
theorem fair_at {cs : List Cnt} (h : Fair cs) (k : Nat) (hk : k < cs.length) : 0 ≤ cs[k].used ∧ cs[k].used ≤ cs[k].lim ∧ cs[k].lim ≤ 9223372036854775807 ∧ 0 ≤ cs[k].peak ∧ cs[k].peak ≤ cs[k].lim := h _ (List.getElem_mem hk)
theorem take_any {a g : Nat} {cs : List Cnt} {w : World} (k n : Int) (ha : Acct w a g cs) (hf : Fair cs) :
    Calls Try.prog 15 #[.pointer (some ⟨a, 0, none⟩), .int .i64 k, .int .i64 n] w (TakePost a g cs k n w) := by
  by_cases h1 : k < 0 ∨ cs.length ≤ k
  · have e : takeF cs k n = (1, cs) := by unfold takeF; rw [if_pos (by omega)]
    refine (take_out k n h1 ha).mono ?_
    rintro e' w' ⟨rfl, rfl⟩
    exact ⟨by rw [e], by rw [e]; exact ha, Fr.refl _ _⟩
  · obtain ⟨j, rfl⟩ := Int.eq_ofNat_of_zero_le (show 0 ≤ k by omega)
    have hj : j < cs.length := by omega
    have hfa := fair_at hf j hj
    by_cases h2 : n < 0
    · have e : takeF cs j n = (1, cs) := by unfold takeF; rw [if_pos (by omega)]
      refine (take_neg j n hj ha h2).mono ?_
      rintro e' w' ⟨rfl, rfl⟩
      exact ⟨by rw [e], by rw [e]; exact ha, Fr.refl _ _⟩
    · have hn : ¬ ((j : Int) < 0 ∨ (cs.length : Int) ≤ j ∨ n < 0) := by omega
      by_cases h3 : cs[j].lim - cs[j].used < n
      · have e : takeF cs j n = (5, cs) := by unfold takeF; rw [if_neg hn, Int.toNat_natCast, getD_at hj, if_pos h3]
        refine (take_full j n hj ha (by omega) ⟨hfa.1, hfa.2.1, hfa.2.2.1⟩ h3).mono ?_
        rintro e' w' ⟨rfl, m, rfl⟩
        exact ⟨by rw [e], by rw [e]; exact ha.drewN m, (Fr.refl _ _).drewN m⟩
      · have e : takeF cs j n = (0, cs.set j { cs[j] with used := cs[j].used + n, peak := max cs[j].peak (cs[j].used + n) }) := by unfold takeF; rw [if_neg hn, Int.toNat_natCast, getD_at hj, if_neg h3]
        refine (take_ok j n hj ha (by omega) ⟨hfa.1, hfa.2.1, hfa.2.2.1⟩ h3).mono ?_
        rintro e' w' ⟨rfl, hA, hF⟩
        exact ⟨by rw [e], by rw [e]; exact hA, hF⟩
theorem maps_set (cs : List Cnt) (k : Nat) (hk : k < cs.length) (u p : Int) : (cs.set k { cs[k] with used := u, peak := p }).map (·.lim) = cs.map (·.lim) ∧
    (cs.set k { cs[k] with used := u, peak := p }).map (·.used) = (cs.map (·.used)).set k u ∧ (cs.set k { cs[k] with used := u, peak := p }).map (·.peak) = (cs.map (·.peak)).set k p := by
  refine ⟨?_, by simp [List.map_set], by simp [List.map_set]⟩
  rw [List.map_set]
  apply List.ext_getElem
  · simp
  · intro i h1 h2
    by_cases e : k = i
    · subst e; simp
    · simp [List.getElem_set_ne e]
theorem map_at (cs : List Cnt) (f : Cnt → Int) (k : Nat) (hk : k < cs.length) : (cs.map f).getD k 0 = f cs[k] := by simp [List.getD_eq_getElem?_getD, hk]
theorem rtake_any {b gl gu gp : Nat} {cs : List Cnt} {w : World} (k n : Int) (ha : RAC w b gl gu gp cs) (hf : Fair cs) :
    Calls Try.prog 20 #[.pointer (some ⟨b, 0, none⟩), .int .i64 k, .int .i64 n] w (RTakePost b gl gu gp cs k n w) := by
  by_cases h1 : k < 0 ∨ cs.length ≤ k ∨ n < 0
  · have e : takeF cs k n = (1, cs) := by unfold takeF; rw [if_pos (by omega)]
    refine (rtake_low k n ha (by simpa using h1)).mono ?_
    rintro e' w' ⟨rfl, rfl⟩
    exact ⟨by rw [e], by rw [e]; exact ha, Fr.refl _ _⟩
  · obtain ⟨j, rfl⟩ := Int.eq_ofNat_of_zero_le (show 0 ≤ k by omega)
    have hj : j < cs.length := by omega
    have hfa := fair_at hf j hj
    have e1 := map_at cs (·.lim) j hj
    have e2 := map_at cs (·.used) j hj
    have e3 := map_at cs (·.peak) j hj
    by_cases h3 : cs[j].lim - cs[j].used < n
    · have e : takeF cs j n = (5, cs) := by unfold takeF; rw [if_neg h1, Int.toNat_natCast, getD_at hj, if_pos h3]
      refine (rtake_full j n ha (by simpa using hj) (by omega) (by rw [e1, e2]; exact ⟨hfa.1, hfa.2.1, hfa.2.2.1⟩) (by rw [e1, e2]; exact h3)).mono ?_
      rintro e' w' ⟨rfl, m, rfl⟩
      exact ⟨by rw [e], by rw [e]; exact ha.fr ((Fr.refl (fun _ => False) w).drewN m) id id id id, (Fr.refl _ _).drewN m⟩
    · have e : takeF cs j n = (0, cs.set j { cs[j] with used := cs[j].used + n, peak := max cs[j].peak (cs[j].used + n) }) := by unfold takeF; rw [if_neg h1, Int.toNat_natCast, getD_at hj, if_neg h3]
      obtain ⟨m1, m2, m3⟩ := maps_set cs j hj (cs[j].used + n) (max cs[j].peak (cs[j].used + n))
      refine (rtake_ok j n ha (by simpa using hj) (by omega) (by rw [e1, e2]; exact ⟨hfa.1, hfa.2.1, hfa.2.2.1⟩) (by rw [e1, e2]; exact h3)).mono ?_
      rintro e' w' ⟨rfl, hA, hF⟩
      rw [e2, e3] at hA
      exact ⟨by rw [e], by rw [e]; unfold RAC; rw [m1, m2, m3]; exact hA, hF⟩
theorem take_fair {cs : List Cnt} (h : Fair cs) (k n : Int) : Fair (takeF cs k n).2 ∧ (takeF cs k n).2.length = cs.length ∧ (takeF cs k n).2.map (·.lim) = cs.map (·.lim) := by
  unfold takeF
  split
  · exact ⟨h, rfl, rfl⟩
  · rename_i h1
    split
    · exact ⟨h, rfl, rfl⟩
    · rename_i h2
      have hj : k.toNat < cs.length := by omega
      rw [getD_at hj] at h2 ⊢
      refine ⟨?_, by simp, (maps_set cs k.toNat hj _ _).1⟩
      intro c hc
      have hfa := fair_at h k.toNat hj
      rcases List.mem_or_eq_of_mem_set hc with hc | rfl
      · exact h c hc
      · refine ⟨?_, ?_, ?_, ?_, ?_⟩ <;> simp only <;> omega

def GivePost (a g : Nat) (cs : List Cnt) (k n : Int) (w : World) (e : Ending) (w' : World) : Prop :=
  e = .returned (.tuple #[]) ∧ Acct w' a g (giveF cs k n) ∧ Fr (· = g) w w'
def RGivePost (b gl gu gp : Nat) (cs : List Cnt) (k n : Int) (w : World) (e : Ending) (w' : World) : Prop :=
  e = .returned (.tuple #[]) ∧ RAC w' b gl gu gp (giveF cs k n) ∧ Fr (fun i => i = gu ∨ i = gp) w w'
theorem give_any {a g : Nat} {cs : List Cnt} {w : World} (k n : Int) (ha : Acct w a g cs) (hf : Fair cs) :
    Calls Try.prog 18 #[.pointer (some ⟨a, 0, none⟩), .int .i64 k, .int .i64 n] w (GivePost a g cs k n w) := by
  by_cases h1 : k < 0 ∨ cs.length ≤ k
  · have e : giveF cs k n = cs := by unfold giveF; rw [if_pos h1]
    refine (give_out k n h1 ha).mono ?_
    rintro e' w' ⟨rfl, rfl⟩
    exact ⟨rfl, by rw [e]; exact ha, Fr.refl _ _⟩
  · obtain ⟨j, rfl⟩ := Int.eq_ofNat_of_zero_le (show 0 ≤ k by omega)
    have hj : j < cs.length := by omega
    have hfa := fair_at hf j hj
    have e : giveF cs j n = cs.set j { cs[j] with used := qsub cs[j].used n } := by unfold giveF; rw [if_neg h1, Int.toNat_natCast, getD_at hj]
    refine (give_in j n hj ha (by omega)).mono ?_
    rintro e' w' ⟨rfl, hA, hF⟩
    exact ⟨rfl, by rw [e]; exact hA, hF⟩
theorem maps_self (cs : List Cnt) (k : Nat) (hk : k < cs.length) (u : Int) (h : u = cs[k].used) : cs.set k { cs[k] with used := u } = cs := by
  subst h; exact List.set_getElem_self hk
theorem rgive_any {b gl gu gp : Nat} {cs : List Cnt} {w : World} (k n : Int) (ha : RAC w b gl gu gp cs) (hf : Fair cs) (hm : n ≤ 9223372036854775807) :
    Calls Try.prog 21 #[.pointer (some ⟨b, 0, none⟩), .int .i64 k, .int .i64 n] w (RGivePost b gl gu gp cs k n w) := by
  by_cases h1 : k < 0 ∨ cs.length ≤ k
  · have e : giveF cs k n = cs := by unfold giveF; rw [if_pos h1]
    refine (rgive_out k n ha (by simpa using h1)).mono ?_
    rintro e' w' ⟨rfl, rfl⟩
    exact ⟨rfl, by rw [e]; exact ha, Fr.refl _ _⟩
  · obtain ⟨j, rfl⟩ := Int.eq_ofNat_of_zero_le (show 0 ≤ k by omega)
    have hj : j < cs.length := by omega
    have hfa := fair_at hf j hj
    have e2 := map_at cs (·.used) j hj
    have e : giveF cs j n = cs.set j { cs[j] with used := qsub cs[j].used n } := by unfold giveF; rw [if_neg h1, Int.toNat_natCast, getD_at hj]
    by_cases h2 : n < 0
    · have e' : giveF cs j n = cs := by rw [e]; exact maps_self cs j hj _ (by unfold qsub; omega)
      refine (rgive_neg j n ha (by simpa using hj) h2).mono ?_
      rintro e'' w' ⟨rfl, rfl⟩
      exact ⟨rfl, by rw [e']; exact ha, Fr.refl _ _⟩
    · obtain ⟨m1, m2, m3⟩ := maps_set cs j hj (qsub cs[j].used n) cs[j].peak
      refine (rgive_in j n ha (by simpa using hj) (by omega) hm (by rw [e2]; omega)).mono ?_
      rintro e' w' ⟨rfl, hA, hF⟩
      rw [e2] at hA
      refine ⟨rfl, ?_, hF⟩
      rw [e]
      have m3' : (cs.set j { cs[j] with used := qsub cs[j].used n }).map (·.peak) = cs.map (·.peak) := by
        have := m3
        rw [this]
        apply List.ext_getElem
        · simp
        · intro i q1 q2
          by_cases ee : j = i
          · subst ee; simp
          · simp [List.getElem_set_ne ee]
      have m1' : (cs.set j { cs[j] with used := qsub cs[j].used n }).map (·.lim) = cs.map (·.lim) := m1
      have m2' : (cs.set j { cs[j] with used := qsub cs[j].used n }).map (·.used) = (cs.map (·.used)).set j (qsub cs[j].used n) := m2
      unfold RAC
      rw [m1', m2', m3']
      exact hA
theorem give_fair {cs : List Cnt} (h : Fair cs) (k n : Int) : Fair (giveF cs k n) ∧ (giveF cs k n).length = cs.length ∧ (giveF cs k n).map (·.lim) = cs.map (·.lim) := by
  unfold giveF
  split
  · exact ⟨h, rfl, rfl⟩
  · rename_i h1
    have hj : k.toNat < cs.length := by omega
    rw [getD_at hj]
    refine ⟨?_, by simp, (maps_set cs k.toNat hj _ cs[k.toNat].peak).1⟩
    intro c hc
    have hfa := fair_at h k.toNat hj
    rcases List.mem_or_eq_of_mem_set hc with hc | rfl
    · exact h c hc
    · have hq : 0 ≤ qsub cs[k.toNat].used n ∧ qsub cs[k.toNat].used n ≤ cs[k.toNat].used := by unfold qsub; omega
      refine ⟨?_, ?_, ?_, ?_, ?_⟩ <;> simp only <;> omega
end Go.Proofs.Ythmllfejnmbfgaa
