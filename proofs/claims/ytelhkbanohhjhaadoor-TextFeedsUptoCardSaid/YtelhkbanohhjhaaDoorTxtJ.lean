/- Contracts of package text's New, Len, Cut and Words. -/
import Derived.Test.YtelhkbanohhjhaaDoorTxtI
import Derived.Test.YtelhkbanohhjhaaDoorTxtK
import Derived.Test.YtelhkbanohhjhaaDoorShelf
namespace Go.Proofs.YtelhkbanohhjhaaDoor.Tx
open Go.RowKit Go.Shelf Go.Proofs.YtelhkbanohhjhaaDoor.PFeed Go.Proofs.YtelhkbanohhjhaaDoorW.PrintWords
set_option linter.unusedVariables false
set_option linter.unusedSimpArgs false

theorem new_any (w : World) : Calls Tryd.prog 11 #[] w fun e w' => e = .returned (.pointer (some ⟨w.heap.size, 0, none⟩)) ∧ w' = w.alloc (.cells #[.slice none 0 0, .bool false] 53) := by
  go_enter Tryd.func11, Tryd.ntmps11
  go_wp2
  go_ret
  exact ⟨rfl, rfl⟩
theorem len_any (w : World) (bb : Nat) (A : Option Addr) (n c : Nat) (h : w.cell? ⟨bb, 0, none⟩ = some (.slice A n c)) (hn : n ≤ 1048576) : Calls Tryd.prog 15 #[.pointer (some ⟨bb, 0, none⟩)] w fun e w' => e = .returned (.int .i64 n) ∧ w' = w := by
  go_enter Tryd.func15, Tryd.ntmps15
  go_wp2
  go_ret
  exact ⟨rfl, rfl⟩
theorem len_nil (w : World) : Calls Tryd.prog 15 #[.pointer none] w fun e w' => e = .returned (.int .i64 0) ∧ w' = w := by
  go_enter Tryd.func15, Tryd.ntmps15
  go_wp2
  go_ret
  exact ⟨rfl, rfl⟩
theorem feed_nil (w : World) (v : Value) (h : ∃ A n c, v = .slice A n c) : Calls Tryd.prog 14 #[.pointer none, v] w fun e w' => e = .returned (.slice none 0 0) ∧ Below w.heap.size w w' := by
  obtain ⟨A, n, c, rfl⟩ := h
  go_enter Tryd.func14, Tryd.ntmps14
  go_wp2
  refine ⟨rfl, .slice none 0 0, ?_, rfl, ((Below.refl _ w).alloc (Nat.le_refl _) _).alloc (by simp) _⟩
  simp [results, Tryd.f14, go_sem]
theorem cut_any (s : ByteArray) (w : World) (m : Int) (hs : s.size ≤ 1048576) (hm : w.cell? ⟨0, 0, none⟩ = some (.int .i64 m)) :
    Calls Tryd.prog 16 #[.string s] w fun e w' => e = .returned (.tuple #[.string (cutTxt s).1, .string (cutTxt s).2]) ∧ ∃ n, w' = w.drewN n := by
  have HM := Lib.hid hm
  have hts : ∀ l : List UInt8, (Lib.trimLeftB l 32).length ≤ l.length := by
    intro l
    induction l with
    | nil => simp [Lib.trimLeftB]
    | cons x l ih => simp only [Lib.trimLeftB, List.dropWhile_cons] at ih ⊢; split <;> simp <;> omega
  have HT := Lib.hid (Tryd.strings_TrimLeft_one s 32 (by decide) w)
  have hlen : (⟨(Lib.trimLeftB s.data.toList 32).toArray⟩ : ByteArray).size < 4294967281 := by
    have := hts s.data.toList
    have e : s.size = s.data.toList.length := rfl
    show (Lib.trimLeftB s.data.toList 32).toArray.size < _
    simp only [List.size_toArray]; omega
  have HC := Lib.hid (Tryd.strings_Cut ⟨(Lib.trimLeftB s.data.toList 32).toArray⟩ ⟨#[32]⟩ m w hlen hm)
  clear hts hlen hm
  go_enter Tryd.func16, Tryd.ntmps16
  go_wp2_with fail
  refine HT.out.mono ?_
  rintro e w1 ⟨rfl, rfl⟩
  go_wp2_with fail
  refine HC.out.mono ?_
  rintro e w2 ⟨rfl, n, rfl⟩
  go_wp2_with fail
  go_ret2
  refine ⟨?_, _, rfl⟩
  have hc := cut_one (Lib.trimLeftB s.data.toList 32)
  have e1 : (Lib.cut (Lib.trimLeftB s.data.toList 32) [32]).1.toArray = (cutL (bs s)).1.toArray := by rw [hc.1]; rfl
  have e2 : (Lib.cut (Lib.trimLeftB s.data.toList 32) [32]).2.1.toArray = (cutL (bs s)).2.toArray := by rw [hc.2]; rfl
  show Ending.returned (.tuple #[.string ⟨(Lib.cut (Lib.trimLeftB s.data.toList 32) [32]).1.toArray⟩, .string ⟨(Lib.cut (Lib.trimLeftB s.data.toList 32) [32]).2.1.toArray⟩]) = _
  rw [e1, e2]; rfl
theorem sp_any (p : Nat) (w : World) (hp : p ≤ 1114111) : Calls Tryd.prog 29 #[.int .i32 p] w fun e w' => e = .returned (.bool (p == 32)) ∧ w' = w := by
  have e : ((p : Int) == 32) = (p == 32) := by rw [Bool.eq_iff_iff]; simp; omega
  go_enter Tryd.func29, Tryd.ntmps29
  go_wp2
  go_ret
  exact ⟨by rw [← e]; rfl, rfl⟩
theorem words_any (s : ByteArray) (w : World) (hs : s.size ≤ 1048576) :
    Calls Tryd.prog 19 #[.string s] w fun e w' => ∃ A, e = .returned (.slice (some ⟨A, 0, none⟩) (Lib.goFieldsP (· == 32) s).length (Lib.goFieldsP (· == 32) s).length) ∧ w.heap.size ≤ A ∧
      w'.ownsRow w.heap.size 9 1 (.slice (some ⟨A, 0, none⟩) (Lib.goFieldsP (· == 32) s).length (Lib.goFieldsP (· == 32) s).length) (Lib.goFieldsP (· == 32) s).length ((Lib.goFieldsP (· == 32) s).map Value.string) ∧ Below w.heap.size w w' := by
  have HF := Lib.hid (Tryd.strings_FieldsFunc_grows 29 #[] (enters_of Tryd.func29 (by kernel_rfl) rfl) (· == 32) s w (by omega) (fun W x hx _ => (sp_any x W hx).mono fun e w' ⟨h1, h2⟩ => ⟨h1, h2 ▸ Below.refl _ _⟩))
  go_enter Tryd.func19, Tryd.ntmps19
  go_wp2_with fail
  refine HF.out.mono ?_
  rintro e w1 ⟨A, rfl, h1, h2, h3⟩
  go_wp2_with fail
  go_ret
  exact ⟨A, rfl, h1, h2, h3⟩
end Go.Proofs.YtelhkbanohhjhaaDoor.Tx
