/- The law FnExactBigOk returns true for all slices of whole numbers of 64 bits. -/
import Derived.Test.YtcogdbbkkbkhfaaPFnExactBigOkx1
import Derived.Test.YtcogdbbkkbkhfaaM0
namespace Go.Proofs.Ytcogdbbkkbkhfaa.PureFnExactBigOk
open Go Go.RowKit Go.Proofs.Ytcogdbbkkbkhfaa.PFnExactBigOk Go.Proofs.Ytcogdbbkkbkhfaa.My Go.Proofs.YtcogdbbkkbkhfaaW.PrintWords Go.Proofs.YtcogdbbkkbkhfaaW.PrintLast Go.Proofs.YtcogdbbkkbkhfaaW.PrintMore
set_option linter.unusedVariables false
set_option linter.unusedSimpArgs false
theorem within_eq (a b c : Int) : impl_within.f a b c = some (decide (b ≤ a ∧ a ≤ c)) := by
  unfold impl_within.f
  by_cases h : b ≤ a <;> simp [h]
theorem l01In_eq (a b c : Int) : spec_l01In.f a b c = some (decide (b ≤ a ∧ a ≤ c)) := by
  unfold spec_l01In.f
  by_cases h : b ≤ a <;> simp [h]
theorem toIntS_loop (l : List Int) (hl : l.length ≤ 17592186044416) : ∀ (d i : Nat) (acc : List Int), acc.length = l.length → i + d = l.length → acc.take i = l.take i →
    Ev (fun k => laws_toIntS.l0 k l acc (i : Int)) l := by
  intro d
  induction d with
  | zero =>
    intro i acc ha hi ht
    refine Ev_at1 fun k => ?_
    simp only [laws_toIntS.l0]
    rw [if_neg (by omega)]
    rw [show i = l.length from by omega, ← ha, List.take_length, ha, List.take_length] at ht
    rw [ht]
  | succ d ih =>
    intro i acc ha hi ht
    refine Ev_round _ (fun k => ?_) (ih (i + 1) (acc.set i (rd l (i : Int))) (by simp [ha]) (by omega) ?_)
    · simp only [laws_toIntS.l0]
      rw [if_pos (by omega), if_pos (by omega), if_pos (by omega), wrap_id (by omega) (by omega)]
      simp
    · rw [take_snoc l i (by omega), List.take_succ_eq_append_getElem (by simp; omega), List.getElem_set_self, List.take_set_of_le (Nat.le_refl _), ht]
theorem toIntS_ev (l : List Int) (hl : l.length ≤ 17592186044416) : Ev (fun k => laws_toIntS.f k l) l := by
  refine Ev.congr (f := fun k => laws_toIntS.l0 k l (List.replicate l.length 0) ((0 : Nat) : Int)) (fun k => ?_) (toIntS_loop l hl l.length 0 _ (by simp) (by simp) (by simp))
  unfold laws_toIntS.f
  rw [if_pos (by omega), if_pos (by omega)]
  simp
theorem eqIntS_loop (l m : List Int) (hl : l.length ≤ 17592186044416) (hm : l.length = m.length) : ∀ (d i : Nat), i + d = l.length →
    Ev (fun k => laws_eqIntS.l0 k l m (i : Int)) (decide (l.drop i = m.drop i)) := by
  intro d
  induction d with
  | zero =>
    intro i hi
    refine Ev_at1 fun k => ?_
    simp only [laws_eqIntS.l0]
    rw [if_neg (by omega), List.drop_eq_nil_of_le (by omega), List.drop_eq_nil_of_le (by omega)]
    simp
  | succ d ih =>
    intro i hi
    rw [drop_cons l i (by omega), drop_cons m i (by omega)]
    by_cases h : rd l (i : Int) = rd m (i : Int)
    · refine Ev_round _ (fun k => ?_) (Ev.congr (fun k => rfl) (show Ev (fun k => laws_eqIntS.l0 k l m ((i + 1 : Nat) : Int)) _ from ?_))
      · simp only [laws_eqIntS.l0]
        rw [if_pos (by omega), if_pos (by omega), if_pos (by omega), if_pos h, wrap_id (by omega) (by omega)]
        rfl
      · have := ih (i + 1) (by omega)
        simpa [h] using this
    · refine Ev_at1 fun k => ?_
      simp only [laws_eqIntS.l0]
      rw [if_pos (by omega), if_pos (by omega), if_pos (by omega), if_neg h]
      simp [h]
theorem eqIntS_ev (l m : List Int) (hl : l.length ≤ 17592186044416) : Ev (fun k => laws_eqIntS.f k l m) (decide (l = m)) := by
  unfold laws_eqIntS.f
  by_cases h : l.length = m.length
  · refine Ev.congr (fun k => by rw [if_pos (by omega)]) ?_
    have := eqIntS_loop l m hl h l.length 0 (by simp)
    simpa using this
  · refine Ev_eq fun k => ?_
    rw [if_neg (by omega)]
    have : l ≠ m := fun e => h (by rw [e])
    simp [this]
theorem eqIntS_self (l : List Int) (hl : l.length ≤ 17592186044416) : Ev (fun k => laws_eqIntS.f k l l) true := by
  have := eqIntS_ev l l hl; simpa using this
/-- A row of groups that is a valid large number. -/
def Dig (l : List Int) : Prop := ∀ x ∈ l, 0 ≤ x ∧ x ≤ 9999
def Big (l : List Int) : Prop := Dig l ∧ l.length ≤ 120 ∧ (l.length = 0 ∨ rd l ((l.length : Int) - 1) ≠ 0)
instance (l : List Int) : Decidable (Dig l) := by unfold Dig; infer_instance
instance (l : List Int) : Decidable (Big l) := by unfold Big; infer_instance
theorem sBigOk_end (l : List Int) (hl : l.length ≤ 17592186044416) (hd : Dig l) (k : Nat) : spec_BigOk.l0 (k + 1) l (l.length : Int) = some (decide (Big l)) := by
  simp only [spec_BigOk.l0]
  rw [if_neg (by omega)]
  by_cases h1 : l.length ≤ 120
  · rw [if_pos (by omega)]
    by_cases h2 : l.length = 0
    · rw [if_pos (by omega)]; simp [Big, hd, h1, h2]
    · rw [if_neg (by omega), wrap_id (by omega) (by omega), if_pos (by omega), if_pos (by omega)]
      simp only [Big, hd, h1, h2, true_and, false_or, Option.some.injEq]
      rw [Bool.eq_iff_iff]; simp
  · rw [if_neg (by omega)]; simp [Big, h1]
theorem sBigOk_loop (l : List Int) (hl : l.length ≤ 17592186044416) : ∀ (d i : Nat), i + d = l.length → Dig (l.take i) →
    Ev (fun k => spec_BigOk.l0 k l (i : Int)) (decide (Big l)) := by
  intro d
  induction d with
  | zero =>
    intro i hi hd
    refine Ev_at1 fun k => ?_
    rw [show i = l.length from by omega]
    exact sBigOk_end l hl (by rw [show i = l.length from by omega, List.take_length] at hd; exact hd) k
  | succ d ih =>
    intro i hi hd
    by_cases h : 0 ≤ rd l (i : Int) ∧ rd l (i : Int) ≤ 9999
    · refine Ev_round _ (fun k => ?_) (ih (i + 1) (by omega) ?_)
      · simp only [spec_BigOk.l0]
        rw [if_pos (by omega), if_pos (by omega), l01In_eq, Option.bind_some, if_pos (by simpa using h), wrap_id (by omega) (by omega)]
        simp
      · rw [take_snoc l i (by omega)]
        intro x hx
        rcases List.mem_append.1 hx with hx | hx
        · exact hd x hx
        · rw [List.mem_singleton.1 hx]; exact h
    · refine Ev_at1 fun k => ?_
      simp only [spec_BigOk.l0]
      rw [if_pos (by omega), if_pos (by omega), l01In_eq, Option.bind_some, if_neg (by simpa using h)]
      have : ¬ Big l := fun hb => h (hb.1 _ (rd_mem l _ (by omega) (by omega)))
      simp [this]
theorem sBigOk_ev (l : List Int) (hl : l.length ≤ 17592186044416) : Ev (fun k => spec_BigOk.f k l) (decide (Big l)) := by
  unfold spec_BigOk.f
  exact sBigOk_loop l hl l.length 0 (by simp) (by simp [Dig])
theorem iBigOk_end (l : List Int) (hl : l.length ≤ 17592186044416) (hd : Dig l) (k : Nat) : impl_BigOk.l0 (k + 1) l l (l.length : Int) (l.length : Int) = some (decide (Big l)) := by
  simp only [impl_BigOk.l0]
  rw [if_neg (by omega)]
  by_cases h1 : l.length ≤ 120
  · rw [if_pos (by omega)]
    by_cases h2 : l.length = 0
    · rw [if_pos (by omega)]; simp [Big, hd, h1, h2]
    · rw [if_neg (by omega), wrap_id (by omega) (by omega), if_pos (by omega), if_pos (by omega)]
      simp only [Big, hd, h1, h2, true_and, false_or, Option.some.injEq]
      rw [Bool.eq_iff_iff]; simp
  · rw [if_neg (by omega)]; simp [Big, h1]
theorem iBigOk_loop (l : List Int) (hl : l.length ≤ 17592186044416) : ∀ (d i : Nat), i + d = l.length → Dig (l.take i) →
    Ev (fun k => impl_BigOk.l0 k l l (l.length : Int) (i : Int)) (decide (Big l)) := by
  intro d
  induction d with
  | zero =>
    intro i hi hd
    refine Ev_at1 fun k => ?_
    rw [show i = l.length from by omega]
    exact iBigOk_end l hl (by rw [show i = l.length from by omega, List.take_length] at hd; exact hd) k
  | succ d ih =>
    intro i hi hd
    by_cases h : 0 ≤ rd l (i : Int) ∧ rd l (i : Int) ≤ 9999
    · refine Ev_round _ (fun k => ?_) (ih (i + 1) (by omega) ?_)
      · simp only [impl_BigOk.l0]
        rw [if_pos (by omega), if_pos (by omega), if_pos (by omega), within_eq, Option.bind_some, if_pos (by simpa using h), wrap_id (by omega) (by omega)]
        simp
      · rw [take_snoc l i (by omega)]
        intro x hx
        rcases List.mem_append.1 hx with hx | hx
        · exact hd x hx
        · rw [List.mem_singleton.1 hx]; exact h
    · refine Ev_at1 fun k => ?_
      simp only [impl_BigOk.l0]
      rw [if_pos (by omega), if_pos (by omega), if_pos (by omega), within_eq, Option.bind_some, if_neg (by simpa using h)]
      have : ¬ Big l := fun hb => h (hb.1 _ (rd_mem l _ (by omega) (by omega)))
      simp [this]
theorem iBigOk_ev (l : List Int) (hl : l.length ≤ 17592186044416) : Ev (fun k => impl_BigOk.f k l) (decide (Big l)) := by
  unfold impl_BigOk.f
  exact iBigOk_loop l hl l.length 0 (by simp) (by simp [Dig])
theorem main : laws_FnExactBigOk.Pure := by
  intro l hl1 hl2 hl3
  refine Ev.rounds ?_
  unfold laws_FnExactBigOk.f
  by_cases hb : (l.length : Int) > 1048576
  · exact Ev_eq fun k => by rw [if_pos hb]
  · refine Ev.congr (fun k => by rw [if_neg hb]) ?_
    have hl : l.length ≤ 17592186044416 := by omega
    refine Ev.bind (toIntS_ev l hl) (Ev.bind (sBigOk_ev l hl) (Ev.bind (toIntS_ev l hl) (Ev.bind (iBigOk_ev l hl) ?_)))
    refine Ev.congr (fun k => by rw [if_neg (by simp)]) (Ev.bind (toIntS_ev l hl) (Ev.bind (eqIntS_self l hl) (Ev_eq fun k => if_pos rfl)))

end Go.Proofs.Ytcogdbbkkbkhfaa.PureFnExactBigOk
namespace Go.Proofs.Ytcogdbbkkbkhfaa.Pure
theorem FnExactBigOk : Go.Proofs.Ytcogdbbkkbkhfaa.PFnExactBigOk.laws_FnExactBigOk.Pure := Go.Proofs.Ytcogdbbkkbkhfaa.PureFnExactBigOk.main
end Go.Proofs.Ytcogdbbkkbkhfaa.Pure
