/- The law FnNames returns true for all byte slices (the two notes that it reads from them). -/
import Derived.Test.YtoaaldfciabahaaQFnNamesy1
import Derived.Test.YtoaaldfciabahaaM0
namespace Go.Proofs.Ytoaaldfciabahaa.PureFnNames
open Go Go.RowKit Go.Proofs.Ytoaaldfciabahaa.PFnNames Go.Proofs.Ytoaaldfciabahaa.My Go.Proofs.YtoaaldfciabahaaW.PrintWords Go.Proofs.YtoaaldfciabahaaW.PrintLast Go.Proofs.YtoaaldfciabahaaW.PrintMore
set_option linter.unusedVariables false
set_option linter.unusedSimpArgs false
theorem within_eq (a b c : Int) : impl_within.f a b c = some (decide (b ≤ a ∧ a ≤ c)) := by
  unfold impl_within.f
  by_cases h : b ≤ a <;> simp [h]
theorem hasName_eq (a : Int) : impl_hasName.f a = some (decide (-15 ≤ a ∧ a ≤ 19)) := by
  simp only [impl_hasName.f, within_eq, Option.bind_some]
theorem named (a : Int) (h : -15 ≤ a ∧ a ≤ 19) : ∃ n : Fin 35, a = (n.val : Int) - 15 :=
  ⟨⟨(a + 15).toNat, by omega⟩, by simp only []; omega⟩
theorem big_eq (l : List Int) : laws_big.f l = some (decide ((l.length : Int) > 1048576)) := rfl
theorem at_some (l : List Int) (hl : l.length ≤ 1048576) (hw : ∀ x ∈ l, (Lit.int .u8 x).wf = true) (i : Int) (hi : 0 ≤ i ∧ i ≤ 1000) : ∃ v, laws_at.f l i = some v ∧ 0 ≤ v ∧ v ≤ 255 := by
  unfold laws_at.f
  by_cases h : (l.length : Int) = 0
  · exact ⟨0, by rw [if_pos h], by omega, by omega⟩
  · rw [wrap_id (n := i * 5) (by omega) (by omega), wrap_id (n := i * 5 + 1) (by omega) (by omega), Int.tmod_eq_emod_of_nonneg (by omega)]
    have h0 := Int.emod_nonneg (i * 5 + 1) h
    have h1 := Int.emod_lt_of_pos (i * 5 + 1) (show 0 < (l.length : Int) by omega)
    have hb := wf_u8 (hw _ (rd_mem l _ h0 h1))
    refine ⟨rd l ((i * 5 + 1) % (l.length : Int)), ?_, hb⟩
    rw [if_neg h, if_pos h0, if_pos h1, wrap_id (by omega) (by omega)]
def nm (k : Nat) (n : Int) : Option (List UInt8) := (impl_NoteName.f k n).map fun s => s.data.toList
theorem nm_k (k : Nat) (n : Int) : impl_NoteName.f k n = impl_NoteName.f 0 n := rfl
theorem nm_some : ∀ n : Fin 35, (impl_NoteName.f 0 ((n.val : Int) - 15)).isSome = true := by decide +kernel
theorem nm_inj : ∀ n m : Fin 35, nm 0 ((n.val : Int) - 15) = nm 0 ((m.val : Int) - 15) → n = m := by decide +kernel
theorem name_at (n : Int) (h : -15 ≤ n ∧ n ≤ 19) : ∃ t, ∀ k, impl_NoteName.f k n = some t := by
  obtain ⟨m, rfl⟩ := named n h
  obtain ⟨t, ht⟩ := Option.isSome_iff_exists.mp (nm_some m)
  exact ⟨t, fun k => ht⟩
theorem name_inj {n m : Int} (hn : -15 ≤ n ∧ n ≤ 19) (hm : -15 ≤ m ∧ m ≤ 19) {t u : ByteArray} (ht : ∀ k, impl_NoteName.f k n = some t) (hu : ∀ k, impl_NoteName.f k m = some u) (e : t.toList = u.toList) : n = m := by
  obtain ⟨a, rfl⟩ := named n hn
  obtain ⟨b, rfl⟩ := named m hm
  have := nm_inj a b (by rw [nm, nm, ht 0, hu 0]; simp only [Option.map_some]; rw [← Lib.toList_data, ← Lib.toList_data, e])
  rw [this]
theorem number_loop (n : Int) (hn : -15 ≤ n ∧ n ≤ 19) (t : ByteArray) (ht : ∀ k, impl_NoteName.f k n = some t) : ∀ (d k : Nat) (x : Int), -15 ≤ x → x + d = n → d + 1 ≤ k → impl_NoteNumber.l0 k t x = some (n, true) := by
  intro d
  induction d with
  | zero =>
    intro k x h0 h1 hk
    obtain ⟨k, rfl⟩ : ∃ j, k = j + 1 := ⟨k - 1, by omega⟩
    have : x = n := by omega
    subst this
    rw [impl_NoteNumber.l0, if_pos hn.2, ht, Option.bind_some, if_pos rfl]
  | succ d ih =>
    intro k x h0 h1 hk
    obtain ⟨k, rfl⟩ : ∃ j, k = j + 1 := ⟨k - 1, by omega⟩
    obtain ⟨u, hu⟩ := name_at x ⟨h0, by omega⟩
    rw [impl_NoteNumber.l0, if_pos (by omega), hu, Option.bind_some, if_neg (fun e => by have := name_inj ⟨h0, by omega⟩ hn hu ht e; omega), wrap_id (n := x + 1) (by omega) (by omega)]
    exact ih k (x + 1) (by omega) (by omega) (by omega)
theorem facts : ∀ a : Fin 28, impl_LetterOf.f ((a.val : Int) - 15 + 7) = impl_LetterOf.f ((a.val : Int) - 15) ∧ (impl_LetterOf.f ((a.val : Int) - 15)).isSome = true ∧ (∃ v : Fin 20, impl_AccidentalOf.f ((a.val : Int) - 15) = some ((v.val : Int) - 10) ∧ impl_AccidentalOf.f ((a.val : Int) - 15 + 7) = some ((v.val : Int) - 9)) ∧ impl_StepsUp.f 100 ((a.val : Int) - 15) ((a.val : Int) - 15 + 1) = some 4 := by decide +kernel
theorem main : ∀ (l : List Int), l.length ≤ maxLen → l.length * 1 ≤ 140737488351232 → (∀ n ∈ l, (Lit.int .u8 n).wf = true) → ∃ k, laws_FnNames.f k l = some true := by
  intro l _ _ hw
  refine ⟨100, ?_⟩
  unfold laws_FnNames.f
  by_cases hb : (l.length : Int) > 1048576
  · simp [big_eq, hb]
  · rw [big_eq, Option.bind_some, if_neg (by simpa using hb)]
    obtain ⟨v, ev, v0, v1⟩ := at_some l (by omega) hw 0 (by omega)
    obtain ⟨u, eu, u0, u1⟩ := at_some l (by omega) hw 1 (by omega)
    rw [ev, eu]
    simp only [Option.bind_some]
    rw [Int.tmod_eq_emod_of_nonneg v0, Int.tmod_eq_emod_of_nonneg u0, wrap_id (n := v % 28 - 15) (by omega) (by omega), wrap_id (n := u % 35 - 15) (by omega) (by omega)]
    obtain ⟨a, ha⟩ : ∃ a : Fin 28, v % 28 = (a.val : Int) := ⟨⟨(v % 28).toNat, by omega⟩, by simp only []; omega⟩
    have hm : -15 ≤ u % 35 - 15 ∧ u % 35 - 15 ≤ 19 := by omega
    generalize u % 35 - 15 = m at hm
    rw [ha]
    have la := a.isLt
    have hn : -15 ≤ (a.val : Int) - 15 ∧ (a.val : Int) - 15 ≤ 19 := by omega
    obtain ⟨f1, f2, ⟨c, f3, f4⟩, f5⟩ := facts a
    generalize (a.val : Int) - 15 = n at hn f1 f2 f3 f4 f5
    obtain ⟨L, f2⟩ := Option.isSome_iff_exists.mp f2
    rw [f2] at f1
    obtain ⟨t, ht⟩ := name_at n hn
    obtain ⟨s, hs⟩ := name_at m hm
    have hnum : impl_NoteNumber.f 100 t = some (n, true) := number_loop n hn t ht (n + 15).toNat 100 (-15) (by omega) (by omega) (by omega)
    have hc := c.isLt
    rw [wrap_id (n := n + 7) (by omega) (by omega), wrap_id (n := n + 1) (by omega) (by omega), wrap_id (n := n - m) (by omega) (by omega)]
    simp only [ht, hs, hnum, f1, f2, f3, f4, f5, Option.bind_some, if_true]
    rw [wrap_id (n := (c.val : Int) - 10 + 1) (by omega) (by omega), if_pos (by omega)]
    have hE : impl_AreEnharmonic.f n m = some (Int.tmod (n - m) 12 == 0) := by
      simp only [impl_AreEnharmonic.f, hasName_eq, Option.bind_some]
      rw [if_pos (by simpa using hn), if_pos (by simpa using hm), wrap_id (n := n - m) (by omega) (by omega)]
    rw [hE, Option.bind_some]
    have hq : ((t.toList == s.toList) == (n == m)) = true := by
      by_cases e : n = m
      · subst e
        have : t = s := Option.some.inj ((ht 0).symm.trans (hs 0))
        subst this; simp
      · have : ¬ t.toList = s.toList := fun q => e (name_inj hn hm ht hs q)
        rw [beq_eq_false_iff_ne.mpr this, beq_eq_false_iff_ne.mpr e]; rfl
    rw [if_pos hq]
    simp

end Go.Proofs.Ytoaaldfciabahaa.PureFnNames
