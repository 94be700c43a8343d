/- The law FnExactNoteName returns true for all whole numbers of 64 bits. -/
import Derived.Test.YtoaaldfciabahaaQFnExactNoteNamey1
import Derived.Test.YtoaaldfciabahaaM0
namespace Go.Proofs.Ytoaaldfciabahaa.PureFnExactNoteName
open Go Go.RowKit Go.Proofs.Ytoaaldfciabahaa.PFnExactNoteName Go.Proofs.Ytoaaldfciabahaa.My Go.Proofs.YtoaaldfciabahaaW.PrintWords Go.Proofs.YtoaaldfciabahaaW.PrintLast Go.Proofs.YtoaaldfciabahaaW.PrintMore
set_option linter.unusedVariables false
set_option linter.unusedSimpArgs false
theorem within_eq (a b c : Int) : impl_within.f a b c = some (decide (b ≤ a ∧ a ≤ c)) := by
  unfold impl_within.f
  by_cases h : b ≤ a <;> simp [h]
theorem l01In_eq (a b c : Int) : spec_l01In.f a b c = some (decide (b ≤ a ∧ a ≤ c)) := by
  unfold spec_l01In.f
  by_cases h : b ≤ a <;> simp [h]
theorem hasName_eq (a : Int) : impl_hasName.f a = some (decide (-15 ≤ a ∧ a ≤ 19)) := by
  simp only [impl_hasName.f, within_eq, Option.bind_some]
theorem l07Has_eq (a : Int) : spec_l07Has.f a = some (decide (-15 ≤ a ∧ a ≤ 19)) := by
  simp only [spec_l07Has.f, l01In_eq, Option.bind_some]
theorem named (a : Int) (h : -15 ≤ a ∧ a ≤ 19) : ∃ n : Fin 35, a = (n.val : Int) - 15 :=
  ⟨⟨(a + 15).toNat, by omega⟩, by simp only []; omega⟩
theorem small : ∀ n : Fin 35, (spec_NoteName.f 20 ((n.val : Int) - 15)).map (fun s => s.data.toList) = (impl_NoteName.f 20 ((n.val : Int) - 15)).map (fun s => s.data.toList) ∧ (spec_NoteName.f 20 ((n.val : Int) - 15)).isSome = true := by decide +kernel
theorem main : ∀ (a : Int), (Lit.int .i64 a).wf = true → ∃ k, laws_FnExactNoteName.f k a = some true := by
  intro a _
  by_cases h : -15 ≤ a ∧ a ≤ 19
  · obtain ⟨n, rfl⟩ := named a h
    refine ⟨20, ?_⟩
    obtain ⟨e, hs⟩ := small n
    obtain ⟨t, ht⟩ := Option.isSome_iff_exists.mp hs
    rw [ht] at e
    obtain ⟨u, hu, e2⟩ := Option.map_eq_some_iff.mp e.symm
    simp only [laws_FnExactNoteName.f, ht, hu, Option.bind_some]
    rw [if_pos (by rw [Lib.toList_data, Lib.toList_data]; exact e2)]
  · refine ⟨1, ?_⟩
    simp only [laws_FnExactNoteName.f, spec_NoteName.f, impl_NoteName.f, hasName_eq, l07Has_eq, Option.bind_some]
    simp [h]

end Go.Proofs.Ytoaaldfciabahaa.PureFnExactNoteName
