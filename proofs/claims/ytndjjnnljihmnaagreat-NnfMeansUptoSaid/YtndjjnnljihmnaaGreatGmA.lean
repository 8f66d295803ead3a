/- The law's predicates; the chapter's examples. -/
import Derived.Test.YtndjjnnljihmnaaGreatFmZ
namespace Go.Proofs.YtndjjnnljihmnaaGreat
open Go.RowKit
set_option linter.unusedVariables false
set_option linter.unusedSimpArgs false
theorem pred_any (name : ByteArray) (hn : name.size ≤ 1000) (A : Option Addr) (n c : Nat) (w : World) : Calls Tryz.prog 23 #[.string name, .slice A n c] w fun e w' => e = .returned (.agg #[.int .i64 1, .string ⟨#[]⟩, .int .i64 0, .string (⟨#[64]⟩ ++ name), .slice A n c, .int .i64 0, .string truS, .slice none 0 0, .slice none 0 0]) ∧ Below w.heap.size w w' := by
  have BK := Lib.hid (Blk.new w 27 [.int .i64 0, .string ⟨#[]⟩, .int .i64 0, .string ⟨#[]⟩, .slice none 0 0, .int .i64 0, .string ⟨#[]⟩, .slice none 0 0, .slice none 0 0])
  have HT := Lib.hid (fun w' => rtrue_any w')
  have HB0 := Lib.hid (show Below w.heap.size w (w.alloc (.cells #[.int .i64 0, .string ⟨#[]⟩, .int .i64 0, .string ⟨#[]⟩, .slice none 0 0, .int .i64 0, .string ⟨#[]⟩, .slice none 0 0, .slice none 0 0] 27)) from Below.alloc (Below.refl _ _) (Nat.le_refl _) _)
  simp only [List.toArray] at BK
  go_enter Tryz.func23, Tryz.ntmps23
  go_upto_region 1 with (fail)
  generalize w.alloc (.cells #[.int .i64 0, .string ⟨#[]⟩, .int .i64 0, .string ⟨#[]⟩, .slice none 0 0, .int .i64 0, .string ⟨#[]⟩, .slice none 0 0, .slice none 0 0] 27) = W at *
  go_wp2_with fail
  refine (HT.out _).mono ?_
  rintro e w2 ⟨rfl, hb2⟩
  have hB := bel_go HB0.out hb2
  have BR := Lib.hid (Blk.go BK.out hb2)
  have tk := BR.out.nine; have yr0 := tk.c0; have yr1 := tk.c1; have yr2 := tk.c2; have yr3 := tk.c3; have yr4 := tk.c4; have yr5 := tk.c5; have yr6 := tk.c6; have yr7 := tk.c7; have yr8 := tk.c8; clear tk
  have tk := BR.out.free9; have yf0 := tk.c0; have yf1 := tk.c1; have yf2 := tk.c2; have yf3 := tk.c3; have yf4 := tk.c4; have yf5 := tk.c5; have yf6 := tk.c6; have yf7 := tk.c7; have yf8 := tk.c8; clear tk
  go_wp2_with fail
  refine bodyPost_ret (v := .agg #[.int .i64 1, .string ⟨#[]⟩, .int .i64 0, .string (⟨#[64]⟩ ++ name), .slice A n c, .int .i64 0, .string truS, .slice none 0 0, .slice none 0 0]) ?_ rfl ⟨rfl, bel9 hB (Nat.le_refl _) _ _ _ _ _ _ _ _ _⟩
  simp [results, Tryz.results23, go_sem, yr0, yr1, yr2, yr3, yr4, yr5, yr6, yr7, yr8]
/-- The chapter's examples, and what comes of them. -/
def tX : Tm := .mk 0 ⟨#[88]⟩ []
def atF (p : UInt8) (l : List Tm) : Fm := .mk 1 ⟨#[]⟩ (.mk 0 (⟨#[64]⟩ ++ ⟨#[p]⟩) l) truTm []
def fQ : Fm := Fm.one 7 ⟨#[88]⟩ (atF 113 [tX])
def exF : Fm := Fm.one 2 ⟨#[]⟩ (.mk 3 ⟨#[]⟩ (.mk 0 ⟨#[]⟩ []) (.mk 0 ⟨#[]⟩ []) [atF 112 [], fQ])
def exM : Fm := Fm.one 7 ⟨#[88]⟩ (.mk 4 ⟨#[]⟩ (.mk 0 ⟨#[]⟩ []) (.mk 0 ⟨#[]⟩ []) [atF 112 [tX], atF 113 []])
theorem ex1 : exF.nnfE = 0 := by kernel_rfl
theorem ex2 : exM.miniE = 0 := by kernel_rfl
theorem ex3 : exF.nnfR = .mk 4 ⟨#[]⟩ (.mk 0 ⟨#[]⟩ []) (.mk 0 ⟨#[]⟩ []) [Fm.one 2 ⟨#[]⟩ (atF 112 []), Fm.one 8 ⟨#[88]⟩ (Fm.one 2 ⟨#[]⟩ (atF 113 [tX]))] := by kernel_rfl
theorem ex4 : exM.miniR = .mk 4 ⟨#[]⟩ (.mk 0 ⟨#[]⟩ []) (.mk 0 ⟨#[]⟩ []) [Fm.one 7 ⟨#[88]⟩ (atF 112 [tX]), atF 113 []] := by kernel_rfl
theorem ex5 : exF.wt ≤ 100 ∧ exM.wt + exM.lf * exM.qs ≤ 1000 ∧ exM.wt ≤ 1000 := by decide
end Go.Proofs.YtndjjnnljihmnaaGreat
