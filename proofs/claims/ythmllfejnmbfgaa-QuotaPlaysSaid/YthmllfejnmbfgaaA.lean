/- Contracts of the counters and of the account's methods of package quota: what each call returns and what it leaves in memory. -/
import Derived.Test.YthmllfejnmbfgaaProg
import Derived.WalkKit
import Derived.WalkSpells
import Derived.RegionTactic
import Derived.Deep.QuietTactic
import Derived.BigQuiet
import Derived.BigRegion
import Derived.Lib.Hide
namespace Go.Proofs.Ythmllfejnmbfgaa
open Go.RowKit
set_option linter.unusedVariables false
set_option linter.unusedSimpArgs false

/-! ### blocks of cells -/
def Blk (w : World) (g : Nat) (T : TypeId) (vs : List Value) : Prop := w.heap[g]? = some (.cells vs.toArray T (0, 0))
theorem Blk.cell {w : World} {g : Nat} {T : TypeId} {vs : List Value} (h : Blk w g T vs) (i : Nat) : w.cell? ⟨g, i, none⟩ = vs[i]? := by
  unfold Blk at h
  simp [World.cell?, h]
theorem Blk.free {w : World} {g : Nat} {T : TypeId} {vs : List Value} (h : Blk w g T vs) (i : Nat) : w.frozen? ⟨g, i, none⟩ = false := by
  unfold Blk at h
  simp [World.frozen?, h]
theorem Blk.lt {w : World} {g : Nat} {T : TypeId} {vs : List Value} (h : Blk w g T vs) : g < w.heap.size :=
  (Array.getElem?_eq_some_iff.1 h).1
theorem Blk.drew {w : World} {g : Nat} {T : TypeId} {vs : List Value} (h : Blk w g T vs) : Blk w.drew g T vs := h
theorem Blk.drewN {w : World} {g : Nat} {T : TypeId} {vs : List Value} (h : Blk w g T vs) (n : Nat) : Blk (w.drewN n) g T vs := h
theorem Blk.set {w : World} {g : Nat} {T : TypeId} {vs : List Value} (h : Blk w g T vs) (i : Nat) (v : Value) : Blk (w.setCell ⟨g, i, none⟩ v) g T (vs.set i v) := by
  unfold Blk at *
  simp [World.setCell, Array.getElem?_modify, h]
theorem Blk.other {w : World} {g : Nat} {T : TypeId} {vs : List Value} (h : Blk w g T vs) (a : Addr) (v : Value) (hne : a.block ≠ g) : Blk (w.setCell a v) g T vs := by
  unfold Blk at *
  simp [World.setCell, Array.getElem?_modify, h, hne]
theorem Blk.below {w w' : World} {g B : Nat} {T : TypeId} {vs : List Value} (h : Blk w g T vs) (hb : Below B w w') (hg : g < B) : Blk w' g T vs :=
  (hb.block g hg).trans h
theorem Blk.alloc {w : World} {g : Nat} {T : TypeId} {vs : List Value} (h : Blk w g T vs) (o : Obj) : Blk (w.alloc o) g T vs := by
  have hl := h.lt
  unfold Blk at *
  simp only [World.alloc]
  rw [Array.getElem?_push, if_neg (by omega)]; exact h

/-- What lay in memory stands, but for the blocks of S. -/
structure Fr (S : Nat → Prop) (w w' : World) : Prop where
  os : w'.os = w.os
  tape : w'.tape = w.tape
  output : w'.output = w.output
  size : w.heap.size ≤ w'.heap.size
  block : ∀ k, k < w.heap.size → ¬ S k → w'.heap[k]? = w.heap[k]?
theorem Fr.refl (S : Nat → Prop) (w : World) : Fr S w w := ⟨rfl, rfl, rfl, Nat.le_refl _, fun _ _ _ => rfl⟩
theorem Fr.trans {S S' : Nat → Prop} {w w1 w2 : World} (h : Fr S w w1) (h' : Fr S' w1 w2) (hs : ∀ i, i < w.heap.size → S' i → S i) : Fr S w w2 :=
  ⟨h'.os.trans h.os, h'.tape.trans h.tape, h'.output.trans h.output, Nat.le_trans h.size h'.size, fun k hk hn =>
    (h'.block k (Nat.lt_of_lt_of_le hk h.size) fun hn' => hn (hs k hk hn')).trans (h.block k hk hn)⟩
theorem Fr.mono {S S' : Nat → Prop} {w w1 : World} (h : Fr S w w1) (hs : ∀ i, i < w.heap.size → S i → S' i) : Fr S' w w1 :=
  ⟨h.os, h.tape, h.output, h.size, fun k hk hn => h.block k hk fun hn' => hn (hs k hk hn')⟩
theorem Fr.of_below {S : Nat → Prop} {w w1 : World} {B : Nat} (h : Below B w w1) (hB : w.heap.size ≤ B) : Fr S w w1 :=
  ⟨h.os, h.tape, h.output, h.size, fun k hk _ => h.block k (by omega)⟩
theorem Fr.below {S : Nat → Prop} {w w1 : World} {B : Nat} (h : Fr S w w1) (hB : B ≤ w.heap.size) (hS : ∀ i, S i → B ≤ i) : Below B w w1 :=
  ⟨h.os, h.tape, h.output, h.size, fun k hk => h.block k (by omega) fun hs => by have := hS k hs; omega⟩
theorem Fr.drewN {S : Nat → Prop} {w w1 : World} (h : Fr S w w1) (n : Nat) : Fr S w (w1.drewN n) := ⟨h.os, h.tape, h.output, h.size, h.block⟩
theorem Fr.drew {S : Nat → Prop} {w w1 : World} (h : Fr S w w1) : Fr S w w1.drew := ⟨h.os, h.tape, h.output, h.size, h.block⟩
theorem Fr.set {S : Nat → Prop} {w w1 : World} (h : Fr S w w1) (g i : Nat) (v : Value) (hS : S g) : Fr S w (w1.setCell ⟨g, i, none⟩ v) :=
  ⟨h.os, h.tape, h.output, by simpa [World.setCell] using h.size, fun k hk hn => by
    rw [← h.block k hk hn]
    have hne : g ≠ k := fun e => hn (e ▸ hS)
    simp [World.setCell, Array.getElem?_modify, hne]⟩
theorem Fr.alloc {S : Nat → Prop} {w w1 : World} (h : Fr S w w1) (o : Obj) : Fr S w (w1.alloc o) :=
  ⟨h.os, h.tape, h.output, by have := h.size; show w.heap.size ≤ (w1.heap.push o).size; rw [Array.size_push]; omega, fun k hk hn => by
    rw [← h.block k hk hn]; have := h.size
    simp only [World.alloc]; rw [Array.getElem?_push, if_neg (by omega)]⟩
theorem Blk.fr {w w' : World} {g : Nat} {T : TypeId} {vs : List Value} {S : Nat → Prop} (h : Blk w g T vs) (hb : Fr S w w') (hg : ¬ S g) : Blk w' g T vs :=
  (hb.block g h.lt hg).trans h

/-! ### an account -/
structure Cnt where
  lim : Int
  used : Int
  peak : Int
def flat (cs : List Cnt) : List Value := cs.flatMap fun c => [.int .i64 c.lim, .int .i64 c.used, .int .i64 c.peak]
theorem flat_nil : flat [] = [] := rfl
theorem flat_cons (c : Cnt) (cs : List Cnt) : flat (c :: cs) = .int .i64 c.lim :: .int .i64 c.used :: .int .i64 c.peak :: flat cs := rfl
theorem flat_length (cs : List Cnt) : (flat cs).length = cs.length * 3 := by
  induction cs with
  | nil => rfl
  | cons c cs ih => rw [flat_cons]; simp [ih]; omega
theorem flat_at (cs : List Cnt) (rest : List Value) : ∀ (k : Nat) (h : k < cs.length), (flat cs ++ rest)[k * 3]? = some (.int .i64 cs[k].lim) ∧ (flat cs ++ rest)[k * 3 + 1]? = some (.int .i64 cs[k].used) ∧ (flat cs ++ rest)[k * 3 + 2]? = some (.int .i64 cs[k].peak) := by
  induction cs with
  | nil => intro k h; simp at h
  | cons c cs ih =>
    intro k h
    cases k with
    | zero => simp [flat_cons]
    | succ k =>
      have := ih k (by simpa using h)
      rw [flat_cons, show (k + 1) * 3 = k * 3 + 3 from by omega]
      simpa [show k * 3 + 3 + 1 = k * 3 + 1 + 3 from by omega, show k * 3 + 3 + 2 = k * 3 + 2 + 3 from by omega] using this
theorem flat_set (cs : List Cnt) (rest : List Value) (u p : Int) : ∀ (k : Nat) (h : k < cs.length), ((flat cs ++ rest).set (k * 3 + 1) (.int .i64 u)).set (k * 3 + 2) (.int .i64 p) = flat (cs.set k { cs[k] with used := u, peak := p }) ++ rest := by
  induction cs with
  | nil => intro k h; simp at h
  | cons c cs ih =>
    intro k h
    cases k with
    | zero => simp [flat_cons]
    | succ k =>
      have := ih k (by simpa using h)
      rw [show (k + 1) * 3 = k * 3 + 3 from by omega]
      simp only [flat_cons, List.cons_append, List.set_cons_succ, show k * 3 + 3 + 1 = k * 3 + 1 + 3 from by omega, show k * 3 + 3 + 2 = k * 3 + 2 + 3 from by omega, this, List.getElem_cons_succ]
theorem flat_set1 (cs : List Cnt) (rest : List Value) (u : Int) : ∀ (k : Nat) (h : k < cs.length), (flat cs ++ rest).set (k * 3 + 1) (.int .i64 u) = flat (cs.set k { cs[k] with used := u }) ++ rest := by
  induction cs with
  | nil => intro k h; simp at h
  | cons c cs ih =>
    intro k h
    cases k with
    | zero => simp [flat_cons]
    | succ k =>
      have := ih k (by simpa using h)
      rw [show (k + 1) * 3 = k * 3 + 3 from by omega]
      simp only [flat_cons, List.cons_append, List.set_cons_succ, show k * 3 + 3 + 1 = k * 3 + 1 + 3 from by omega, this, List.getElem_cons_succ]

/-- The account behind pointer b, its counts in block g. -/
def Acct (w : World) (b g : Nat) (cs : List Cnt) : Prop :=
  b ≠ g ∧ cs.length ≤ 16 ∧ ∃ cap rest, cs.length ≤ cap ∧ cap ≤ 9223372036854775807 ∧ Blk w b 53 [.slice (some ⟨g, 0, none⟩) cs.length cap] ∧ Blk w g 55 (flat cs ++ rest)
theorem Acct.fr {w w' : World} {b g : Nat} {cs : List Cnt} {S : Nat → Prop} (h : Acct w b g cs) (hb : Fr S w w') (h1 : ¬ S b) (h2 : ¬ S g) : Acct w' b g cs := by
  obtain ⟨a, a', cap, rest, c, d, e, f⟩ := h
  exact ⟨a, a', cap, rest, c, d, e.fr hb h1, f.fr hb h2⟩

theorem of_in {b g cap : Nat} {cs : List Cnt} {w : World} (k : Nat) (hk : k < cs.length) (hn : cs.length ≤ 16)
    (h0 : w.cell? ⟨b, 0, none⟩ = some (.slice (some ⟨g, 0, none⟩) cs.length cap)) :
    Calls Try.prog 31 #[.pointer (some ⟨b, 0, none⟩), .int .i64 k] w fun e w' => e = .returned (.pointer (some ⟨g, k * 3, none⟩)) ∧ w = w' := by
  go_enter Try.func31, Try.ntmps31
  go_wp2
  go_ret
  exact ⟨rfl, rfl⟩
theorem of_low {b : Nat} {w : World} (k : Int) (hk : k < 0) :
    Calls Try.prog 31 #[.pointer (some ⟨b, 0, none⟩), .int .i64 k] w fun e w' => e = .returned (.pointer none) ∧ w = w' := by
  go_enter Try.func31, Try.ntmps31
  go_wp2
  go_ret
  exact ⟨rfl, rfl⟩
theorem of_high {b g n cap : Nat} {w : World} (k : Int) (hk : n ≤ k) 
    (h0 : w.cell? ⟨b, 0, none⟩ = some (.slice (some ⟨g, 0, none⟩) n cap)) :
    Calls Try.prog 31 #[.pointer (some ⟨b, 0, none⟩), .int .i64 k] w fun e w' => e = .returned (.pointer none) ∧ w = w' := by
  have h1 : ¬ k < 0 := by omega
  go_enter Try.func31, Try.ntmps31
  go_wp2
  go_ret
  exact ⟨rfl, rfl⟩
theorem of_nil {w : World} (k : Int)  :
    Calls Try.prog 31 #[.pointer none, .int .i64 k] w fun e w' => e = .returned (.pointer none) ∧ w = w' := by
  go_enter Try.func31, Try.ntmps31
  go_wp2
  go_ret
  exact ⟨rfl, rfl⟩

/-- Take in range: what it answers. -/
theorem take_full {b g : Nat} {cs : List Cnt} {w : World} (k : Nat) (n : Int) (hk : k < cs.length) (ha : Acct w b g cs) (hn : 0 ≤ n)
    (hl : 0 ≤ cs[k].used ∧ cs[k].used ≤ cs[k].lim ∧ cs[k].lim ≤ 9223372036854775807) (hf : cs[k].lim - cs[k].used < n) :
    Calls Try.prog 15 #[.pointer (some ⟨b, 0, none⟩), .int .i64 k, .int .i64 n] w fun e w' => e = .returned (.int .i64 5) ∧ ∃ m, w' = w.drewN m := by
  obtain ⟨hne, h16, cap, rest, hc, hm, hB, hG⟩ := ha
  have c0 := hB.cell 0
  obtain ⟨f0, f1, f2⟩ := flat_at cs rest k hk
  have e0 := (hG.cell (k * 3)).trans f0
  have e1 := (hG.cell (k * 3 + 1)).trans f1
  simp only [List.getElem?_cons_zero] at c0
  clear f0 f1 f2
  generalize cs[k].lim = L at *
  generalize cs[k].used = U at *
  go_enter Try.func15, Try.ntmps15
  go_wp2_with (go_at_call 31; refine (of_in k hk h16 c0).mono ?_; rintro e w' ⟨rfl, rfl⟩)
  go_quiet (fail)
  go_wp2
  go_ret
  exact ⟨rfl, _, rfl⟩
theorem take_neg {b g : Nat} {cs : List Cnt} {w : World} (k : Nat) (n : Int) (hk : k < cs.length) (ha : Acct w b g cs) (hn : n < 0) :
    Calls Try.prog 15 #[.pointer (some ⟨b, 0, none⟩), .int .i64 k, .int .i64 n] w fun e w' => e = .returned (.int .i64 1) ∧ w' = w := by
  obtain ⟨hne, h16, cap, rest, hc, hm, hB, hG⟩ := ha
  have c0 := hB.cell 0
  simp only [List.getElem?_cons_zero] at c0
  go_enter Try.func15, Try.ntmps15
  go_wp2_with (go_at_call 31; refine (of_in k hk h16 c0).mono ?_; rintro e w' ⟨rfl, rfl⟩)
  go_ret
  exact ⟨rfl, rfl⟩
theorem Acct.drew {w : World} {b g : Nat} {cs : List Cnt} (h : Acct w b g cs) : Acct w.drew b g cs := h
theorem Acct.drewN {w : World} {b g : Nat} {cs : List Cnt} (h : Acct w b g cs) (n : Nat) : Acct (w.drewN n) b g cs := h
theorem take_close {b g k cap : Nat} {cs : List Cnt} {rest l1 : List Value} {w w1 : World} {U P n : Int} {c : Cnt} (hne : b ≠ g) (h16 : cs.length ≤ 16) (hc : cs.length ≤ cap) (hm : cap ≤ 9223372036854775807)
    (HS : l1.set (k * 3 + 2) (Value.int IntKind.i64 (max P (U + n))) = flat (cs.set k c) ++ rest)
    (G1 : Blk w1 g 55 l1) (B1 : Blk w1 b 53 [Value.slice (some { block := g, off := 0 }) cs.length cap]) (F1 : Fr (· = g) w w1) (v : Int) (hv : v = max P (U + n)) :
    Acct (w1.setCell ⟨g, k * 3 + 2, none⟩ (.int .i64 v)) b g (cs.set k c) ∧ Fr (· = g) w (w1.setCell ⟨g, k * 3 + 2, none⟩ (.int .i64 v)) := by
  subst hv
  refine ⟨⟨hne, by simpa using h16, cap, rest, by simpa using hc, hm, ?_, ?_⟩, F1.set _ _ _ rfl⟩
  · have := B1.other ⟨g, k * 3 + 2, none⟩ (.int .i64 (max P (U + n))) (fun e => hne e.symm)
    simpa using this
  · rw [← HS]; exact G1.set _ _
theorem take_ok {b g : Nat} {cs : List Cnt} {w : World} (k : Nat) (n : Int) (hk : k < cs.length) (ha : Acct w b g cs) (hn : 0 ≤ n)
    (hl : 0 ≤ cs[k].used ∧ cs[k].used ≤ cs[k].lim ∧ cs[k].lim ≤ 9223372036854775807) (hf : ¬ cs[k].lim - cs[k].used < n) :
    Calls Try.prog 15 #[.pointer (some ⟨b, 0, none⟩), .int .i64 k, .int .i64 n] w fun e w' => e = .returned (.int .i64 0) ∧
      Acct w' b g (cs.set k { cs[k] with used := cs[k].used + n, peak := max cs[k].peak (cs[k].used + n) }) ∧ Fr (· = g) w w' := by
  obtain ⟨hne, h16, cap, rest, hc, hm, hB, hG⟩ := ha
  have c0 := hB.cell 0
  obtain ⟨f0, f1, f2⟩ := flat_at cs rest k hk
  have e0 := (hG.cell (k * 3)).trans f0
  have e1 := (hG.cell (k * 3 + 1)).trans f1
  have e2 := f2
  have hlen := (List.getElem?_eq_some_iff.1 f1).1
  have g1 := hG.free (k * 3 + 1)
  have g2 := hG.free (k * 3 + 2)
  simp only [List.getElem?_cons_zero] at c0
  clear f0 f1 f2
  have HS := Lib.hid (flat_set cs rest (cs[k].used + n) (max cs[k].peak (cs[k].used + n)) k hk)
  generalize cs[k].lim = L at *
  generalize cs[k].used = U at *
  generalize cs[k].peak = P at *
  go_enter Try.func15, Try.ntmps15
  go_wp2_with (go_at_call 31; refine (of_in k hk h16 c0).mono ?_; rintro e w' ⟨rfl, rfl⟩)
  go_quiet (fail)
  go_wp2
  have G1 := (hG.drewN nq).set (k * 3 + 1) (.int .i64 (U + n))
  have F1 := ((Fr.refl (· = g) w).drewN nq).set g (k * 3 + 1) (.int .i64 (U + n)) rfl
  have B1 := (hB.drewN nq).other ⟨g, k * 3 + 1, none⟩ (.int .i64 (U + n)) (fun e => hne e.symm)
  generalize (w.drewN nq).setCell ⟨g, k * 3 + 1, none⟩ (.int .i64 (U + n)) = w1 at *
  have d1 : w1.cell? ⟨g, k * 3 + 1, none⟩ = some (.int .i64 (U + n)) := by
    rw [G1.cell]; rw [List.getElem?_set_self hlen]
  have d2 : w1.cell? ⟨g, k * 3 + 2, none⟩ = some (.int .i64 P) := by rw [G1.cell, List.getElem?_set_ne (by omega)]; exact e2
  have g2' := G1.free (k * 3 + 2)
  go_region
  all_goals go_wp2
  all_goals go_ret
  all_goals refine ⟨rfl, ?_, ?_⟩
  · exact ((take_close hne h16 hc hm HS.out G1 B1 F1 (U + n) (by omega)).1).drew
  · exact ((take_close hne h16 hc hm HS.out G1 B1 F1 (U + n) (by omega)).2).drew
  · exact ((take_close hne h16 hc hm HS.out G1 B1 F1 P (by omega)).1).drew
  · exact ((take_close hne h16 hc hm HS.out G1 B1 F1 P (by omega)).2).drew

theorem take_out {b g : Nat} {cs : List Cnt} {w : World} (k n : Int) (hk : k < 0 ∨ cs.length ≤ k) (ha : Acct w b g cs) :
    Calls Try.prog 15 #[.pointer (some ⟨b, 0, none⟩), .int .i64 k, .int .i64 n] w fun e w' => e = .returned (.int .i64 1) ∧ w' = w := by
  obtain ⟨hne, h16, cap, rest, hc, hm, hB, hG⟩ := ha
  have c0 := hB.cell 0
  simp only [List.getElem?_cons_zero] at c0
  rcases hk with hk | hk
  · go_enter Try.func15, Try.ntmps15
    go_wp2_with (go_at_call 31; refine (of_low k hk).mono ?_; rintro e w' ⟨rfl, rfl⟩)
    go_ret
    exact ⟨rfl, rfl⟩
  · go_enter Try.func15, Try.ntmps15
    go_wp2_with (go_at_call 31; refine (of_high k hk c0).mono ?_; rintro e w' ⟨rfl, rfl⟩)
    go_ret
    exact ⟨rfl, rfl⟩

theorem used_in {b g : Nat} {cs : List Cnt} {w : World} (k : Nat) (hk : k < cs.length) (ha : Acct w b g cs) :
    Calls Try.prog 16 #[.pointer (some ⟨b, 0, none⟩), .int .i64 k] w fun e w' => e = .returned (.int .i64 cs[k].used) ∧ w = w' := by
  obtain ⟨hne, h16, cap, rest, hc, hm, hB, hG⟩ := ha
  have c0 := hB.cell 0
  simp only [List.getElem?_cons_zero] at c0
  obtain ⟨f0, f1, f2⟩ := flat_at cs rest k hk
  have e1 := (hG.cell (k * 3 + 1)).trans f1
  clear f0 f1 f2
  go_enter Try.func16, Try.ntmps16
  go_wp2_with (go_at_call 31; refine (of_in k hk h16 c0).mono ?_; rintro e w' ⟨rfl, rfl⟩)
  go_ret
  exact ⟨rfl, rfl⟩

end Go.Proofs.Ythmllfejnmbfgaa
