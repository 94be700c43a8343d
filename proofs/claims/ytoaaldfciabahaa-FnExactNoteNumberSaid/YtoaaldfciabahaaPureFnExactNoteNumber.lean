/- The law FnExactNoteNumber returns true for all texts of less than 2^47 bytes. -/
import Derived.Test.YtoaaldfciabahaaQFnExactNoteNumbery1
import Derived.Test.YtoaaldfciabahaaM0
namespace Go.Proofs.Ytoaaldfciabahaa.PureFnExactNoteNumber
open Go Go.RowKit Go.Proofs.Ytoaaldfciabahaa.PFnExactNoteNumber Go.Proofs.Ytoaaldfciabahaa.My Go.Proofs.YtoaaldfciabahaaW.PrintWords Go.Proofs.YtoaaldfciabahaaW.PrintLast Go.Proofs.YtoaaldfciabahaaW.PrintMore
set_option linter.unusedVariables false
set_option linter.unusedSimpArgs false
theorem within_eq (a b c : Int) : impl_within.f a b c = some (decide (b ≤ a ∧ a ≤ c)) := by
  unfold impl_within.f
  by_cases h : b ≤ a <;> simp [h]
theorem l01In_eq (a b c : Int) : spec_l01In.f a b c = some (decide (b ≤ a ∧ a ≤ c)) := by
  unfold spec_l01In.f
  by_cases h : b ≤ a <;> simp [h]
theorem hasName_eq (a : Int) : impl_hasName.f a = some (decide (-15 ≤ a ∧ a ≤ 19)) := by
  simp only [impl_hasName.f, within_eq, Option.bind_some]
theorem l07Has_eq (a : Int) : spec_l07Has.f a = some (decide (-15 ≤ a ∧ a ≤ 19)) := by
  simp only [spec_l07Has.f, l01In_eq, Option.bind_some]
theorem named (a : Int) (h : -15 ≤ a ∧ a ≤ 19) : ∃ n : Fin 35, a = (n.val : Int) - 15 :=
  ⟨⟨(a + 15).toNat, by omega⟩, by simp only []; omega⟩
/-! The names of the notes. -/
theorem nsmall : ∀ n : Fin 35, (spec_NoteName.f 20 ((n.val : Int) - 15)).map (fun s => s.data.toList) = (impl_NoteName.f 20 ((n.val : Int) - 15)).map (fun s => s.data.toList) ∧ (spec_NoteName.f 20 ((n.val : Int) - 15)).isSome = true := by decide +kernel
theorem sname_up (n : Int) (t : ByteArray) (h : spec_NoteName.f 20 n = some t) : ∀ d, spec_NoteName.f (20 + d) n = some t
  | 0 => h
  | d + 1 => spec_NoteName.mono n (20 + d) t (sname_up n t h d)
theorem eqname (k : Nat) (hk : 20 ≤ k) (n : Int) (h : -15 ≤ n ∧ n ≤ 19) : ∃ t, spec_NoteName.f k n = some t ∧ impl_NoteName.f k n = some t := by
  obtain ⟨m, rfl⟩ := named n h
  obtain ⟨e, hs⟩ := nsmall m
  obtain ⟨t, ht⟩ := Option.isSome_iff_exists.mp hs
  rw [ht] at e
  obtain ⟨u, hu, e2⟩ := Option.map_eq_some_iff.mp e.symm
  have tu : u = t := by rw [← Lib.mk_data u, ← Lib.mk_data t, e2]
  subst tu
  obtain ⟨d, rfl⟩ : ∃ d, k = 20 + d := ⟨k - 20, by omega⟩
  exact ⟨u, sname_up _ _ ht d, hu⟩
theorem loops (s : ByteArray) : ∀ (d k : Nat) (x : Int), -15 ≤ x → x + d = 20 → 21 + d ≤ k → ∃ r, spec_NoteNumber.l0 k s x = some r ∧ impl_NoteNumber.l0 k s x = some r := by
  intro d
  induction d with
  | zero =>
    intro k x h0 h1 hk
    obtain ⟨k, rfl⟩ : ∃ j, k = j + 1 := ⟨k - 1, by omega⟩
    refine ⟨(0, false), ?_, ?_⟩
    · rw [spec_NoteNumber.l0, if_neg (by omega)]
    · rw [impl_NoteNumber.l0, if_neg (by omega)]
  | succ d ih =>
    intro k x h0 h1 hk
    obtain ⟨k, rfl⟩ : ∃ j, k = j + 1 := ⟨k - 1, by omega⟩
    obtain ⟨t, hs, hi⟩ := eqname k (by omega) x ⟨h0, by omega⟩
    rw [spec_NoteNumber.l0, impl_NoteNumber.l0, if_pos (by omega), hs, hi]
    simp only [Option.bind_some]
    by_cases c : t.toList = s.toList
    · exact ⟨(x, true), by rw [if_pos c], by rw [if_pos (by omega), if_pos c]⟩
    · obtain ⟨r, e1, e2⟩ := ih k (x + 1) (by omega) (by omega) (by omega)
      rw [← wrap_id (n := x + 1) (by omega) (by omega)] at e1 e2
      exact ⟨r, by rw [if_neg c]; exact e1, by rw [if_pos (by omega), if_neg c]; exact e2⟩
theorem main (s : ByteArray) (h0 : s.size ≤ 140737488351232) : ∃ k, laws_FnExactNoteNumber.f k s = some true := by
  refine ⟨100, ?_⟩
  unfold laws_FnExactNoteNumber.f
  by_cases hb : (s.size : Int) > 1048576
  · rw [if_pos hb]
  · rw [if_neg hb]
    obtain ⟨r, e1, e2⟩ := loops s 35 100 (-15) (by omega) (by omega) (by omega)
    rw [spec_NoteNumber.f, impl_NoteNumber.f, e1, e2]
    simp

end Go.Proofs.Ytoaaldfciabahaa.PureFnExactNoteNumber
