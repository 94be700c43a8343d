/- The law FnExactBigOf returns true for all whole numbers of 64 bits. -/
import Derived.Test.YtcogdbbkkbkhfaaPFnExactBigOfx1
import Derived.Test.YtcogdbbkkbkhfaaM0
namespace Go.Proofs.Ytcogdbbkkbkhfaa.PureFnExactBigOf
open Go Go.RowKit Go.Proofs.Ytcogdbbkkbkhfaa.PFnExactBigOf Go.Proofs.Ytcogdbbkkbkhfaa.My Go.Proofs.YtcogdbbkkbkhfaaW.PrintWords Go.Proofs.YtcogdbbkkbkhfaaW.PrintLast Go.Proofs.YtcogdbbkkbkhfaaW.PrintMore
set_option linter.unusedVariables false
set_option linter.unusedSimpArgs false
theorem eqIntS_loop (l m : List Int) (hl : l.length ≤ 17592186044416) (hm : l.length = m.length) : ∀ (d i : Nat), i + d = l.length →
    Ev (fun k => laws_eqIntS.l0 k l m (i : Int)) (decide (l.drop i = m.drop i)) := by
  intro d
  induction d with
  | zero =>
    intro i hi
    refine Ev_at1 fun k => ?_
    simp only [laws_eqIntS.l0]
    rw [if_neg (by omega), List.drop_eq_nil_of_le (by omega), List.drop_eq_nil_of_le (by omega)]
    simp
  | succ d ih =>
    intro i hi
    rw [drop_cons l i (by omega), drop_cons m i (by omega)]
    by_cases h : rd l (i : Int) = rd m (i : Int)
    · refine Ev_round _ (fun k => ?_) (Ev.congr (fun k => rfl) (show Ev (fun k => laws_eqIntS.l0 k l m ((i + 1 : Nat) : Int)) _ from ?_))
      · simp only [laws_eqIntS.l0]
        rw [if_pos (by omega), if_pos (by omega), if_pos (by omega), if_pos h, wrap_id (by omega) (by omega)]
        rfl
      · have := ih (i + 1) (by omega)
        simpa [h] using this
    · refine Ev_at1 fun k => ?_
      simp only [laws_eqIntS.l0]
      rw [if_pos (by omega), if_pos (by omega), if_pos (by omega), if_neg h]
      simp [h]
theorem eqIntS_ev (l m : List Int) (hl : l.length ≤ 17592186044416) : Ev (fun k => laws_eqIntS.f k l m) (decide (l = m)) := by
  unfold laws_eqIntS.f
  by_cases h : l.length = m.length
  · refine Ev.congr (fun k => by rw [if_pos (by omega)]) ?_
    have := eqIntS_loop l m hl h l.length 0 (by simp)
    simpa using this
  · refine Ev_eq fun k => ?_
    rw [if_neg (by omega)]
    have : l ≠ m := fun e => h (by rw [e])
    simp [this]
theorem eqIntS_self (l : List Int) (hl : l.length ≤ 17592186044416) : Ev (fun k => laws_eqIntS.f k l l) true := by
  have := eqIntS_ev l l hl; simpa using this
/-- The numbers from m on, as many as a list has elements. -/
def upFrom (m : Int) : Nat → List Int
  | 0 => []
  | n + 1 => m :: upFrom (m + 1) n
theorem upFrom_length (m : Int) (n : Nat) : (upFrom m n).length = n := by
  induction n generalizing m with
  | zero => rfl
  | succ n ih => simp [upFrom, ih]
theorem upFrom_rd (m : Int) (n i : Nat) (h : i < n) : rd (upFrom m n) (i : Int) = m + i := by
  induction n generalizing m i with
  | zero => omega
  | succ n ih =>
    cases i with
    | zero => simp [upFrom, rd]
    | succ i =>
      have := ih (m + 1) i (by omega)
      rw [rd_nat] at this ⊢
      simp only [upFrom, List.getD_cons_succ]
      rw [this]; omega
theorem markIntS_loop (n : Nat) (hn : n ≤ 17592186044416) : ∀ (d i : Nat) (acc : List Int), acc.length = n → i + d = n → acc.take i = (upFrom 1 n).take i →
    Ev (fun k => laws_markIntS.l0 k acc (1 + (i : Int)) (i : Int)) (1 + (n : Int), upFrom 1 n) := by
  intro d
  induction d with
  | zero =>
    intro i acc ha hi ht
    refine Ev_at1 fun k => ?_
    simp only [laws_markIntS.l0]
    rw [if_neg (by omega)]
    rw [show i = n from by omega, List.take_of_length_le (by omega), List.take_of_length_le (by rw [upFrom_length]; omega)] at ht
    rw [ht, show i = n from by omega]
  | succ d ih =>
    intro i acc ha hi ht
    refine Ev_round _ (fun k => ?_) (ih (i + 1) (acc.set i (1 + (i : Int))) (by simp [ha]) (by omega) ?_)
    · simp only [laws_markIntS.l0]
      rw [if_pos (by omega), if_pos (by omega), wrap_id (by omega) (by omega), wrap_id (by omega) (by omega)]
      simp [Int.add_assoc]
    · rw [take_snoc (upFrom 1 n) i (by rw [upFrom_length]; omega), List.take_succ_eq_append_getElem (by simp; omega), List.getElem_set_self, List.take_set_of_le (Nat.le_refl _), ht, upFrom_rd _ _ _ (by omega)]
theorem markIntS_ev (l : List Int) (hl : l.length ≤ 17592186044416) : Ev (fun k => laws_markIntS.f k l 1) (1 + (l.length : Int), upFrom 1 l.length) := by
  unfold laws_markIntS.f
  exact markIntS_loop l.length hl l.length 0 l rfl (by simp) (by simp)
theorem heldIntS_loop (n : Nat) (hn : n ≤ 17592186044416) : ∀ (d i : Nat), i + d = n →
    Ev (fun k => laws_heldIntS.l0 k (upFrom 1 n) (1 + (i : Int)) (i : Int)) (1 + (n : Int)) := by
  intro d
  induction d with
  | zero =>
    intro i hi
    refine Ev_at1 fun k => ?_
    simp only [laws_heldIntS.l0]
    rw [if_neg (by rw [upFrom_length]; omega), show i = n from by omega]
  | succ d ih =>
    intro i hi
    refine Ev_round _ (fun k => ?_) (ih (i + 1) (by omega))
    simp only [laws_heldIntS.l0]
    rw [if_pos (by rw [upFrom_length]; omega), if_pos (by omega), upFrom_rd _ _ _ (by omega), if_pos rfl, wrap_id (by omega) (by omega), wrap_id (by omega) (by omega)]
    simp [Int.add_assoc]
theorem heldIntS_ev (n : Nat) (hn : n ≤ 17592186044416) : Ev (fun k => laws_heldIntS.f k (upFrom 1 n) 1) (1 + (n : Int)) := by
  unfold laws_heldIntS.f
  exact heldIntS_loop n hn n 0 (by simp)
/-- The groups of a number, the lowest first. -/
def groups (fuel : Nat) (n : Int) : List Int :=
  match fuel with
  | 0 => []
  | f + 1 => if n > 0 then (n % 10000) :: groups f (n / 10000) else []
theorem groups_length (fuel : Nat) (n : Int) : (groups fuel n).length ≤ fuel := by
  induction fuel generalizing n with
  | zero => simp [groups]
  | succ f ih => simp only [groups]; split <;> simp [ih]
theorem groups_done (fuel : Nat) (n : Int) (h : n ≤ 0) : groups fuel n = [] := by
  cases fuel with
  | zero => rfl
  | succ f => simp only [groups]; rw [if_neg (by omega)]
theorem div_step {n : Int} {f : Nat} (h0 : 0 < n) (h : n < (10000 : Int) ^ (f + 1)) : n / 10000 < (10000 : Int) ^ f := by
  rw [Int.pow_succ] at h
  exact Int.ediv_lt_of_lt_mul (by omega) h
theorem sBigOf_loop (fuel : Nat) : ∀ (n : Int) (acc : List Int), n ≤ 9223372036854775807 → n < (10000 : Int) ^ fuel → acc.length + fuel ≤ 1000 →
    Ev (fun k => spec_BigOf.l0 k n acc) (acc ++ groups fuel n) := by
  induction fuel with
  | zero =>
    intro n acc h1 h2 h3
    refine Ev_at1 fun k => ?_
    simp only [spec_BigOf.l0]
    rw [if_neg (by simp at h2; omega), groups]; simp
  | succ f ih =>
    intro n acc h1 h2 h3
    by_cases h : n > 0
    · have hs := div_step h h2
      have he : n.tdiv 10000 = n / 10000 := Int.tdiv_eq_ediv_of_nonneg (by omega)
      have hm : n.tmod 10000 = n % 10000 := Int.tmod_eq_emod_of_nonneg (by omega)
      have q := ih (n / 10000) (acc ++ [n % 10000]) (by omega) hs (by simp; omega)
      have e : acc ++ groups (f + 1) n = (acc ++ [n % 10000]) ++ groups f (n / 10000) := by simp [groups, h]
      rw [e]
      refine Ev_round _ (fun k => ?_) q
      simp only [spec_BigOf.l0]
      rw [if_pos h, if_pos (by omega), he, hm, wrap_id (by omega) (by omega)]
    · refine Ev_at1 fun k => ?_
      simp only [spec_BigOf.l0]
      rw [if_neg h, groups, if_neg h]; simp
theorem iBigOf_loop (fuel : Nat) : ∀ (n : Int) (acc : List Int), n ≤ 9223372036854775807 → n < (10000 : Int) ^ fuel → acc.length + fuel ≤ 1000 →
    Ev (fun k => impl_BigOf.l0 k n acc) (acc ++ groups fuel n) := by
  induction fuel with
  | zero =>
    intro n acc h1 h2 h3
    refine Ev_at1 fun k => ?_
    simp only [impl_BigOf.l0]
    rw [if_neg (by simp at h2; omega), groups]; simp
  | succ f ih =>
    intro n acc h1 h2 h3
    by_cases h : n > 0
    · have hs := div_step h h2
      have he : n.tdiv 10000 = n / 10000 := Int.tdiv_eq_ediv_of_nonneg (by omega)
      have hm : n.tmod 10000 = n % 10000 := Int.tmod_eq_emod_of_nonneg (by omega)
      have q := ih (n / 10000) (acc ++ [n % 10000]) (by omega) hs (by simp; omega)
      have e : acc ++ groups (f + 1) n = (acc ++ [n % 10000]) ++ groups f (n / 10000) := by simp [groups, h]
      rw [e]
      refine Ev_round _ (fun k => ?_) q
      simp only [impl_BigOf.l0]
      rw [if_pos h, if_pos (by omega), he, hm, wrap_id (by omega) (by omega)]
    · refine Ev_at1 fun k => ?_
      simp only [impl_BigOf.l0]
      rw [if_neg h, groups, if_neg h]; simp
theorem iBigOf_ev (n : Int) (h : n ≤ 9223372036854775807) : Ev (fun k => impl_BigOf.f k n) (groups 5 n) := by
  have := iBigOf_loop 5 n [] h (by omega) (by simp)
  simpa [impl_BigOf.f] using this
theorem sBigOf_ev (n : Int) (h : n ≤ 9223372036854775807) : Ev (fun k => spec_BigOf.f k n) (groups 5 n) := by
  have := sBigOf_loop 5 n [] h (by omega) (by simp)
  simpa [spec_BigOf.f] using this
theorem main : laws_FnExactBigOf.Pure := by
  intro n hn
  have h := (wf_i64 hn).2
  have hl : (groups 5 n).length ≤ 17592186044416 := Nat.le_trans (groups_length 5 n) (by omega)
  refine Ev.rounds ?_
  unfold laws_FnExactBigOf.f
  refine Ev.bind (sBigOf_ev n h) (Ev.bind (iBigOf_ev n h) (Ev.bind (eqIntS_self _ hl) (Ev.congr (fun k => if_pos rfl) (Ev.bind (markIntS_ev _ hl) (Ev.bind (heldIntS_ev _ hl) ?_)))))
  refine Ev.congr (fun k => by rw [if_neg (by omega), if_pos rfl]) (Ev.bind (iBigOf_ev n h) (Ev.bind (eqIntS_self _ hl) (Ev.congr (fun k => if_pos rfl) (Ev.bind (heldIntS_ev _ hl) ?_))))
  exact Ev_eq fun k => by rw [if_neg (by omega), if_pos rfl]

end Go.Proofs.Ytcogdbbkkbkhfaa.PureFnExactBigOf
namespace Go.Proofs.Ytcogdbbkkbkhfaa.Pure
theorem FnExactBigOf : Go.Proofs.Ytcogdbbkkbkhfaa.PFnExactBigOf.laws_FnExactBigOf.Pure := Go.Proofs.Ytcogdbbkkbkhfaa.PureFnExactBigOf.main
end Go.Proofs.Ytcogdbbkkbkhfaa.Pure
