/- A copy of wide elements as a step of a region that draws, and the closure of the account's Back. -/
import Derived.Test.YthmllfejnmbfgaaN
import Derived.Laws.CopyOwn
namespace Go.Proofs.Ythmllfejnmbfgaa
open Go.RowKit
set_option linter.unusedVariables false
set_option linter.unusedSimpArgs false

theorem run_copy_wide {P : Program} (w : World) (dT sT ty elem : TypeId) (g o n dCap : Nat) (a : Addr) (sCap : Nat) (cur : Array Value) (t : TypeId) (cs : List Value) (size : Nat)
    (hu : P.underlying dT = some (.slice elem)) (hs : (P.info? elem).map (·.size) = some size)
    (hg : w.heap[g]? = some (.cells cur t (0, 0))) (hn : cs.length = n * size)
    (hsrc : ∀ j v, cs[j]? = some v → w.cell? (a.add j) = some v) (hfit : o + cs.length ≤ cur.size) (h1 : ∀ v ∈ cs, v.oneCell' = true) :
    (Builtin.copy_ #[dT, sT] ty #[.slice (some ⟨g, o, none⟩) n dCap, .slice (some a) n sCap]).run P w =
      .ok (goInt n) (w.setRow g (cur.toList.take o ++ cs ++ cur.toList.drop (o + cs.length)).toArray) := by
  have hl := run_loadCells_list (P := P) w a cs hsrc
  have hst := run_storeCells_at P g o t cs 0 cur w hg (by simpa using hfit) h1
  cases hq : P.info? elem with
  | none => simp [hq] at hs
  | some i =>
    have hi : i.size = size := by simpa [hq] using hs
    have hmin : Nat.min n n = n := Nat.min_self n
    simp [Builtin.copy_, run_underlying hu, Builtin.lenOf, Builtin.firstCells, sizeOf, typeInfo, hq, hi, hmin, ← hn, hl, hst]
/-- The same as one step of a region that draws its order. -/
theorem step_copy_wide {P : Program} {ops : Array Oper} {o : Oper} {a : Act} {w : World} {K : Act → World → Prop} {Q : Exit → Act → World → Prop} {E : Prop} (hgd : o.guard = none) (d s : Operand) (dT sT : TypeId)
    (ho : o.op = .call { callee := .builtin .copy, args := #[d, s], argTypes := #[dT, sT] }) (elem : TypeId) (size : Nat) (hu : P.underlying dT = some (.slice elem)) (hsz : (P.info? elem).map (·.size) = some size)
    (g n dCap : Nat) (ad : Addr) (sCap : Nat) (hd : a.eval d = .slice (some ⟨g, 0, none⟩) n dCap) (hs : a.eval s = .slice (some ad) n sCap)
    (cur : List Value) (t : TypeId) (hg : Blk w g t cur) (cs : List Value) (hn : cs.length = n * size)
    (hsrc : ∀ j v, cs[j]? = some v → w.cell? (ad.add j) = some v) (hfit : cs.length = cur.length) (h1 : ∀ v ∈ cs, v.oneCell' = true)
    (h : ∀ w', Blk w' g t cs → Fr (· = g) w w' → K (a.put o.dst (goInt n)) w') :
    if Region.wanted o (yielded ops a.tmps) = true then Oper.wp P o a w K Q else E := by
  have hw : Region.wanted o (yielded ops a.tmps) = true := by simp [Region.wanted, hgd]
  rw [if_pos hw]
  have hrun := run_copy_wide (P := P) w dT sT o.type elem g 0 n dCap ad sCap cur.toArray t cs size hu hsz hg hn hsrc (by simp [hfit]) h1
  have e : (cur.toArray.toList.take 0 ++ cs ++ cur.toArray.toList.drop (0 + cs.length)) = cs := by simp [hfit]
  rw [e] at hrun
  unfold Oper.wp
  simp [execOp, ho, resolve, invoke, builtin, hd, hs, hrun, Result.andThen]
  refine h _ (setRow_heap w g _ _ t _ hg) ⟨rfl, rfl, rfl, by simp [World.setRow], fun k hk hne => setRow_other w g k _ (fun e => hne e)⟩

/-- The closure of Back: what it answers, and the count that it sets. -/
theorem set_yes {w : World} {bn G N cap k : Nat} {cs : List Cnt} (n : Int) (rest : List Value) (hB : Blk w bn 51 [.slice (some ⟨G, 0, none⟩) N cap]) (hG : Blk w G 55 (flat cs ++ rest)) (hk : k < cs.length) (hN : N = cs.length) (h16 : cs.length ≤ 16)
    (h0 : 0 ≤ n) (h1 : n ≤ cs[k].used) :
    Calls Try.prog 32 #[.int .i64 k, .int .i64 n, .pointer (some ⟨bn, 0, none⟩)] w fun e w' => e = .returned (.bool true) ∧ Blk w' G 55 (flat (cs.set k { cs[k] with used := n }) ++ rest) ∧ Fr (· = G) w w' := by
  subst hN
  have c0 := hB.cell 0
  simp only [List.getElem?_cons_zero] at c0
  obtain ⟨f0, f1, f2⟩ := flat_at cs rest k hk
  have e1 := (hG.cell (k * 3 + 1)).trans f1
  have g1 := hG.free (k * 3 + 1)
  have HS := Lib.hid (flat_set1 cs rest n k hk)
  have q := hG.set (k * 3 + 1) (.int .i64 n)
  rw [HS.out] at q
  have Q := Lib.hid q
  clear f0 f1 f2 q
  generalize cs[k].used = U at *
  have d1 : decide (0 ≤ n) = true := by simpa using h0
  have d2 : decide (n ≤ U) = true := by simpa using h1
  go_enter Try.func32, Try.ntmps32
  go_wp2
  go_ret
  exact ⟨rfl, Q.out, (Fr.refl _ _).set _ _ _ rfl⟩
theorem set_no {w : World} {bn G N cap k : Nat} {cs : List Cnt} (n : Int) (rest : List Value) (hB : Blk w bn 51 [.slice (some ⟨G, 0, none⟩) N cap]) (hG : Blk w G 55 (flat cs ++ rest)) (hk : k < cs.length) (hN : N = cs.length) (h16 : cs.length ≤ 16)
    (h0 : n < 0 ∨ cs[k].used < n) :
    Calls Try.prog 32 #[.int .i64 k, .int .i64 n, .pointer (some ⟨bn, 0, none⟩)] w fun e w' => e = .returned (.bool false) ∧ Fr (· = G) w w' := by
  subst hN
  have c0 := hB.cell 0
  simp only [List.getElem?_cons_zero] at c0
  obtain ⟨f0, f1, f2⟩ := flat_at cs rest k hk
  have e1 := (hG.cell (k * 3 + 1)).trans f1
  have g1 := hG.free (k * 3 + 1)
  clear f0 f1 f2
  generalize cs[k].used = U at *
  rcases h0 with h0 | h0
  · have d1 : decide (0 ≤ n) = false := by simp; omega
    go_enter Try.func32, Try.ntmps32
    go_wp2
    go_ret
    exact ⟨rfl, (Fr.refl _ _).set _ _ _ rfl⟩
  · by_cases h2 : 0 ≤ n
    · have d1 : decide (0 ≤ n) = true := by simpa using h2
      have d2 : decide (n ≤ U) = false := by simp; omega
      go_enter Try.func32, Try.ntmps32
      go_wp2
      go_ret
      exact ⟨rfl, (Fr.refl _ _).set _ _ _ rfl⟩
    · have d1 : decide (0 ≤ n) = false := by simp; omega
      go_enter Try.func32, Try.ntmps32
      go_wp2
      go_ret
      exact ⟨rfl, (Fr.refl _ _).set _ _ _ rfl⟩
end Go.Proofs.Ythmllfejnmbfgaa
