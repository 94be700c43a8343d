/- The law FnExactCompareBig returns true for all pairs of slices of whole numbers of 64 bits. -/
import Derived.Test.YtejbpnmcoobboaaPFnExactCompareBigx2
import Derived.Test.YtejbpnmcoobboaaM0
import Derived.Test.YtejbpnmcoobboaaM1
namespace Go.Proofs.Ytejbpnmcoobboaa.PureFnExactCompareBig
open Go Go.RowKit Go.Proofs.Ytejbpnmcoobboaa.PFnExactCompareBig Go.Proofs.Ytejbpnmcoobboaa.My Go.Proofs.YtejbpnmcoobboaaW.PrintWords Go.Proofs.YtejbpnmcoobboaaW.PrintLast Go.Proofs.YtejbpnmcoobboaaW.PrintMore
set_option linter.unusedVariables false
set_option linter.unusedSimpArgs false
theorem within_eq (a b c : Int) : impl_within.f a b c = some (decide (b ≤ a ∧ a ≤ c)) := by
  unfold impl_within.f
  by_cases h : b ≤ a <;> simp [h]
theorem l01In_eq (a b c : Int) : spec_l01In.f a b c = some (decide (b ≤ a ∧ a ≤ c)) := by
  unfold spec_l01In.f
  by_cases h : b ≤ a <;> simp [h]
theorem toIntS_loop (l : List Int) (hl : l.length ≤ 17592186044416) : ∀ (d i : Nat) (acc : List Int), acc.length = l.length → i + d = l.length → acc.take i = l.take i →
    Ev (fun k => laws_toIntS.l0 k l acc (i : Int)) l := by
  intro d
  induction d with
  | zero =>
    intro i acc ha hi ht
    refine Ev_at1 fun k => ?_
    simp only [laws_toIntS.l0]
    rw [if_neg (by omega)]
    rw [show i = l.length from by omega, ← ha, List.take_length, ha, List.take_length] at ht
    rw [ht]
  | succ d ih =>
    intro i acc ha hi ht
    refine Ev_round _ (fun k => ?_) (ih (i + 1) (acc.set i (rd l (i : Int))) (by simp [ha]) (by omega) ?_)
    · simp only [laws_toIntS.l0]
      rw [if_pos (by omega), if_pos (by omega), if_pos (by omega), wrap_id (by omega) (by omega)]
      simp
    · rw [take_snoc l i (by omega), List.take_succ_eq_append_getElem (by simp; omega), List.getElem_set_self, List.take_set_of_le (Nat.le_refl _), ht]
theorem toIntS_ev (l : List Int) (hl : l.length ≤ 17592186044416) : Ev (fun k => laws_toIntS.f k l) l := by
  refine Ev.congr (f := fun k => laws_toIntS.l0 k l (List.replicate l.length 0) ((0 : Nat) : Int)) (fun k => ?_) (toIntS_loop l hl l.length 0 _ (by simp) (by simp) (by simp))
  unfold laws_toIntS.f
  rw [if_pos (by omega), if_pos (by omega)]
  simp
theorem eqIntS_loop (l m : List Int) (hl : l.length ≤ 17592186044416) (hm : l.length = m.length) : ∀ (d i : Nat), i + d = l.length →
    Ev (fun k => laws_eqIntS.l0 k l m (i : Int)) (decide (l.drop i = m.drop i)) := by
  intro d
  induction d with
  | zero =>
    intro i hi
    refine Ev_at1 fun k => ?_
    simp only [laws_eqIntS.l0]
    rw [if_neg (by omega), List.drop_eq_nil_of_le (by omega), List.drop_eq_nil_of_le (by omega)]
    simp
  | succ d ih =>
    intro i hi
    rw [drop_cons l i (by omega), drop_cons m i (by omega)]
    by_cases h : rd l (i : Int) = rd m (i : Int)
    · refine Ev_round _ (fun k => ?_) (Ev.congr (fun k => rfl) (show Ev (fun k => laws_eqIntS.l0 k l m ((i + 1 : Nat) : Int)) _ from ?_))
      · simp only [laws_eqIntS.l0]
        rw [if_pos (by omega), if_pos (by omega), if_pos (by omega), if_pos h, wrap_id (by omega) (by omega)]
        rfl
      · have := ih (i + 1) (by omega)
        simpa [h] using this
    · refine Ev_at1 fun k => ?_
      simp only [laws_eqIntS.l0]
      rw [if_pos (by omega), if_pos (by omega), if_pos (by omega), if_neg h]
      simp [h]
theorem eqIntS_ev (l m : List Int) (hl : l.length ≤ 17592186044416) : Ev (fun k => laws_eqIntS.f k l m) (decide (l = m)) := by
  unfold laws_eqIntS.f
  by_cases h : l.length = m.length
  · refine Ev.congr (fun k => by rw [if_pos (by omega)]) ?_
    have := eqIntS_loop l m hl h l.length 0 (by simp)
    simpa using this
  · refine Ev_eq fun k => ?_
    rw [if_neg (by omega)]
    have : l ≠ m := fun e => h (by rw [e])
    simp [this]
theorem eqIntS_self (l : List Int) (hl : l.length ≤ 17592186044416) : Ev (fun k => laws_eqIntS.f k l l) true := by
  have := eqIntS_ev l l hl; simpa using this
/-- A row of groups that is a valid large number. -/
def Big (l : List Int) : Prop := Dig l ∧ l.length ≤ 120 ∧ (l.length = 0 ∨ rd l ((l.length : Int) - 1) ≠ 0)
instance (l : List Int) : Decidable (Big l) := by unfold Big; infer_instance
theorem Big_iff {l : List Int} : Big l ↔ Canon l ∧ l.length ≤ 120 := by
  unfold Big Canon
  constructor
  · rintro ⟨h1, h2, h3⟩
    refine ⟨⟨h1, ?_⟩, h2⟩
    by_cases hz : l.length = 0
    · rw [List.length_eq_zero_iff.1 hz]; exact Top_nil
    · exact Top_last (by omega) (h3.resolve_left hz)
  · rintro ⟨⟨h1, h2⟩, h3⟩
    refine ⟨h1, h3, ?_⟩
    by_cases hz : l.length = 0
    · exact .inl hz
    · have hne : l ≠ [] := List.length_pos_iff.1 (by omega)
      right
      rw [rd_last l hne]
      intro e
      apply h2
      rw [List.getLast?_eq_some_getLast hne, e]
theorem sBigOk_end (l : List Int) (hl : l.length ≤ 17592186044416) (hd : Dig l) (k : Nat) : spec_BigOk.l0 (k + 1) l (l.length : Int) = some (decide (Big l)) := by
  simp only [spec_BigOk.l0]
  rw [if_neg (by omega)]
  by_cases h1 : l.length ≤ 120
  · rw [if_pos (by omega)]
    by_cases h2 : l.length = 0
    · rw [if_pos (by omega)]; simp [Big, hd, h1, h2]
    · rw [if_neg (by omega), wrap_id (by omega) (by omega), if_pos (by omega), if_pos (by omega)]
      simp only [Big, hd, h1, h2, true_and, false_or, Option.some.injEq]
      rw [Bool.eq_iff_iff]; simp
  · rw [if_neg (by omega)]; simp [Big, h1]
theorem sBigOk_loop (l : List Int) (hl : l.length ≤ 17592186044416) : ∀ (d i : Nat), i + d = l.length → Dig (l.take i) →
    Ev (fun k => spec_BigOk.l0 k l (i : Int)) (decide (Big l)) := by
  intro d
  induction d with
  | zero =>
    intro i hi hd
    refine Ev_at1 fun k => ?_
    rw [show i = l.length from by omega]
    exact sBigOk_end l hl (by rw [show i = l.length from by omega, List.take_length] at hd; exact hd) k
  | succ d ih =>
    intro i hi hd
    by_cases h : 0 ≤ rd l (i : Int) ∧ rd l (i : Int) ≤ 9999
    · refine Ev_round _ (fun k => ?_) (ih (i + 1) (by omega) ?_)
      · simp only [spec_BigOk.l0]
        rw [if_pos (by omega), if_pos (by omega), l01In_eq, Option.bind_some, if_pos (by simpa using h), wrap_id (by omega) (by omega)]
        simp
      · rw [take_snoc l i (by omega)]
        intro x hx
        rcases List.mem_append.1 hx with hx | hx
        · exact hd x hx
        · rw [List.mem_singleton.1 hx]; exact h
    · refine Ev_at1 fun k => ?_
      simp only [spec_BigOk.l0]
      rw [if_pos (by omega), if_pos (by omega), l01In_eq, Option.bind_some, if_neg (by simpa using h)]
      have : ¬ Big l := fun hb => h (hb.1 _ (rd_mem l _ (by omega) (by omega)))
      simp [this]
theorem sBigOk_ev (l : List Int) (hl : l.length ≤ 17592186044416) : Ev (fun k => spec_BigOk.f k l) (decide (Big l)) := by
  unfold spec_BigOk.f
  exact sBigOk_loop l hl l.length 0 (by simp) (by simp [Dig])
theorem iBigOk_end (l : List Int) (hl : l.length ≤ 17592186044416) (hd : Dig l) (k : Nat) : impl_BigOk.l0 (k + 1) l l (l.length : Int) (l.length : Int) = some (decide (Big l)) := by
  simp only [impl_BigOk.l0]
  rw [if_neg (by omega)]
  by_cases h1 : l.length ≤ 120
  · rw [if_pos (by omega)]
    by_cases h2 : l.length = 0
    · rw [if_pos (by omega)]; simp [Big, hd, h1, h2]
    · rw [if_neg (by omega), wrap_id (by omega) (by omega), if_pos (by omega), if_pos (by omega)]
      simp only [Big, hd, h1, h2, true_and, false_or, Option.some.injEq]
      rw [Bool.eq_iff_iff]; simp
  · rw [if_neg (by omega)]; simp [Big, h1]
theorem iBigOk_loop (l : List Int) (hl : l.length ≤ 17592186044416) : ∀ (d i : Nat), i + d = l.length → Dig (l.take i) →
    Ev (fun k => impl_BigOk.l0 k l l (l.length : Int) (i : Int)) (decide (Big l)) := by
  intro d
  induction d with
  | zero =>
    intro i hi hd
    refine Ev_at1 fun k => ?_
    rw [show i = l.length from by omega]
    exact iBigOk_end l hl (by rw [show i = l.length from by omega, List.take_length] at hd; exact hd) k
  | succ d ih =>
    intro i hi hd
    by_cases h : 0 ≤ rd l (i : Int) ∧ rd l (i : Int) ≤ 9999
    · refine Ev_round _ (fun k => ?_) (ih (i + 1) (by omega) ?_)
      · simp only [impl_BigOk.l0]
        rw [if_pos (by omega), if_pos (by omega), if_pos (by omega), within_eq, Option.bind_some, if_pos (by simpa using h), wrap_id (by omega) (by omega)]
        simp
      · rw [take_snoc l i (by omega)]
        intro x hx
        rcases List.mem_append.1 hx with hx | hx
        · exact hd x hx
        · rw [List.mem_singleton.1 hx]; exact h
    · refine Ev_at1 fun k => ?_
      simp only [impl_BigOk.l0]
      rw [if_pos (by omega), if_pos (by omega), if_pos (by omega), within_eq, Option.bind_some, if_neg (by simpa using h)]
      have : ¬ Big l := fun hb => h (hb.1 _ (rd_mem l _ (by omega) (by omega)))
      simp [this]
theorem iBigOk_ev (l : List Int) (hl : l.length ≤ 17592186044416) : Ev (fun k => impl_BigOk.f k l) (decide (Big l)) := by
  unfold impl_BigOk.f
  exact iBigOk_loop l hl l.length 0 (by simp) (by simp [Dig])
theorem io_loop (a b : List Int) (ha : Dig a) (hb : Dig b) (hl : a.length = b.length) (hs : a.length ≤ 2000000) : ∀ (j : Nat), j ≤ a.length → a.drop j = b.drop j →
    Ev (fun k => impl_order.l0 k a b ((j : Int) - 1)) (cmpI (val a) (val b)) := by
  intro j
  induction j with
  | zero =>
    intro _ hd
    have e : a = b := by simpa using hd
    refine Ev_at1 fun k => ?_
    simp only [impl_order.l0]
    rw [if_neg (by omega), e, cmpI_self]
  | succ j ih =>
    intro hj hd
    have hw : ((j + 1 : Nat) : Int) - 1 = (j : Int) := by omega
    rw [hw]
    rcases Int.lt_trichotomy (rd a (j : Int)) (rd b (j : Int)) with h | h | h
    · refine Ev_at1 fun k => ?_
      simp only [impl_order.l0]
      rw [if_pos (by omega), if_pos (by omega), if_pos (by omega), if_pos (by omega), if_pos h, cmpI_lt (val_at ha hb j (by omega) (by omega) hd h)]
    · refine Ev_round _ (fun k => ?_) (ih (by omega) (by rw [drop_cons a j (by omega), drop_cons b j (by omega), h, hd]))
      simp only [impl_order.l0]
      rw [if_pos (by omega), if_pos (by omega), if_pos (by omega), if_pos (by omega), if_neg (by omega), if_neg (by omega), wrap_id (by omega) (by omega)]
    · refine Ev_at1 fun k => ?_
      simp only [impl_order.l0]
      rw [if_pos (by omega), if_pos (by omega), if_pos (by omega), if_pos (by omega), if_neg (by omega), if_pos (by omega), cmpI_gt (val_at hb ha j (by omega) (by omega) hd.symm h)]
theorem iorder_ev {a b : List Int} (ha : Canon a) (hb : Canon b) (hs : a.length ≤ 2000000) : Ev (fun k => impl_order.f k a b) (cmpI (val a) (val b)) := by
  unfold impl_order.f
  by_cases h : a.length = b.length
  · refine Ev.congr (fun k => by rw [if_pos (by omega)]) ?_
    rw [wrap_id (by omega) (by omega)]
    exact io_loop a b ha.1 hb.1 h hs a.length (Nat.le_refl _) (by rw [List.drop_length, h, List.drop_length])
  · refine Ev_eq fun k => ?_
    rw [if_neg (by omega)]
    rcases Nat.lt_or_gt_of_ne h with h1 | h1
    · rw [if_pos (by omega), cmpI_lt (Canon_len_lt ha hb h1)]
    · rw [if_neg (by omega), cmpI_gt (Canon_len_lt hb ha h1)]
def cmpB (a b : List Int) : Int := if Big a ∧ Big b then cmpI (val a) (val b) else 0
theorem iCompareBig_ev (a b : List Int) (ha : a.length ≤ 17592186044416) (hb : b.length ≤ 17592186044416) : Ev (fun k => impl_CompareBig.f k a b) (cmpB a b) := by
  unfold impl_CompareBig.f
  refine Ev.bind (iBigOk_ev a ha) ?_
  by_cases h1 : Big a
  · refine Ev.congr (fun k => by rw [if_pos (by simpa using h1)]) (Ev.bind (iBigOk_ev b hb) ?_)
    by_cases h2 : Big b
    · have := iorder_ev (Big_iff.1 h1).1 (Big_iff.1 h2).1 (by have := (Big_iff.1 h1).2; omega)
      have e : cmpB a b = cmpI (val a) (val b) := by unfold cmpB; rw [if_pos ⟨h1, h2⟩]
      rw [e]
      exact Ev.congr (fun k => by rw [if_pos (by simpa using h2)]) (Ev.bind this (Ev_eq fun k => rfl))
    · exact Ev_eq fun k => by rw [if_neg (by simpa using h2)]; simp [cmpB, h2]
  · exact Ev_eq fun k => by rw [if_neg (by simpa using h1)]; simp [cmpB, h1]
theorem scb_loop (a b : List Int) (ha : Dig a) (hb : Dig b) (hl : a.length = b.length) (hs : a.length ≤ 2000000) : ∀ (j : Nat), j ≤ a.length → a.drop j = b.drop j →
    Ev (fun k => spec_CompareBig.l0 k a b ((j : Int) - 1)) (cmpI (val a) (val b)) := by
  intro j
  induction j with
  | zero =>
    intro _ hd
    have e : a = b := by simpa using hd
    refine Ev_at1 fun k => ?_
    simp only [spec_CompareBig.l0]
    rw [if_neg (by omega), e, cmpI_self]
  | succ j ih =>
    intro hj hd
    have hw : ((j + 1 : Nat) : Int) - 1 = (j : Int) := by omega
    rw [hw]
    rcases Int.lt_trichotomy (rd a (j : Int)) (rd b (j : Int)) with h | h | h
    · refine Ev_at1 fun k => ?_
      simp only [spec_CompareBig.l0]
      rw [if_pos (by omega), if_pos (by omega), if_pos (by omega), if_pos (by omega), if_pos h, cmpI_lt (val_at ha hb j (by omega) (by omega) hd h)]
    · refine Ev_round _ (fun k => ?_) (ih (by omega) (by rw [drop_cons a j (by omega), drop_cons b j (by omega), h, hd]))
      simp only [spec_CompareBig.l0]
      rw [if_pos (by omega), if_pos (by omega), if_pos (by omega), if_pos (by omega), if_neg (by omega), if_neg (by omega), wrap_id (by omega) (by omega)]
    · refine Ev_at1 fun k => ?_
      simp only [spec_CompareBig.l0]
      rw [if_pos (by omega), if_pos (by omega), if_pos (by omega), if_pos (by omega), if_neg (by omega), if_pos (by omega), cmpI_gt (val_at hb ha j (by omega) (by omega) hd.symm h)]
theorem sCompareBig_ev (a b : List Int) (hla : a.length ≤ 17592186044416) (hlb : b.length ≤ 17592186044416) : Ev (fun k => spec_CompareBig.f k a b) (cmpB a b) := by
  unfold spec_CompareBig.f
  have hj : ¬ (Big a ∧ Big b) → Ev (fun k => spec_CompareBig.j0 k a b true) (cmpB a b) := fun h => Ev_at1 fun k => by simp only [spec_CompareBig.j0]; rw [if_pos trivial, cmpB, if_neg h]
  refine Ev.bind (sBigOk_ev a hla) ?_
  by_cases h1 : Big a
  · refine Ev.congr (fun k => by rw [if_pos (by simpa using h1)]) (Ev.bind (sBigOk_ev b hlb) ?_)
    by_cases h2 : Big b
    · have e : cmpB a b = cmpI (val a) (val b) := by unfold cmpB; rw [if_pos ⟨h1, h2⟩]
      rw [e, show (!decide (Big b)) = false from by simpa using h2]
      have ha := (Big_iff.1 h1).1
      have hb := (Big_iff.1 h2).1
      have hs := (Big_iff.1 h1).2
      by_cases h : a.length = b.length
      · refine Ev_round _ (fun k => ?_) (scb_loop a b ha.1 hb.1 h (by omega) a.length (Nat.le_refl _) (by rw [List.drop_length, h, List.drop_length]))
        simp only [spec_CompareBig.j0, Bool.false_eq_true, if_false]
        rw [if_pos (by omega), wrap_id (by omega) (by omega)]
      · refine Ev_at1 fun k => ?_
        simp only [spec_CompareBig.j0, Bool.false_eq_true, if_false]
        rw [if_neg (by omega)]
        rcases Nat.lt_or_gt_of_ne h with h1 | h1
        · rw [if_pos (by omega), cmpI_lt (Canon_len_lt ha hb h1)]
        · rw [if_neg (by omega), cmpI_gt (Canon_len_lt hb ha h1)]
    · rw [show (!decide (Big b)) = true from by simpa using h2]
      exact hj (fun q => h2 q.2)
  · exact Ev.congr (fun k => by rw [if_neg (by simpa using h1)]) (hj (fun q => h1 q.1))
theorem main : laws_FnExactCompareBig.Pure := by
  intro l m hl1 hl2 hl3 hm1 hm2 hm3
  refine Ev.rounds ?_
  unfold laws_FnExactCompareBig.f
  by_cases hb : (l.length : Int) > 1048576
  · exact Ev_eq fun k => by rw [if_pos hb]
  by_cases hc : (m.length : Int) > 1048576
  · exact Ev_eq fun k => by rw [if_neg hb, if_pos hc]
  have hl : l.length ≤ 17592186044416 := by omega
  have hm : m.length ≤ 17592186044416 := by omega
  refine Ev.congr (fun k => by rw [if_neg hb, if_neg hc]) (Ev.bind (toIntS_ev l hl) (Ev.bind (toIntS_ev m hm) (Ev.bind (sCompareBig_ev l m hl hm) (Ev.bind (toIntS_ev l hl) (Ev.bind (toIntS_ev m hm) (Ev.bind (iCompareBig_ev l m hl hm) ?_))))))
  refine Ev.congr (fun k => if_pos rfl) (Ev.bind (toIntS_ev l hl) (Ev.bind (eqIntS_self l hl) (Ev.congr (fun k => if_pos rfl) (Ev.bind (toIntS_ev m hm) (Ev.bind (eqIntS_self m hm) (Ev_eq fun k => if_pos rfl))))))

end Go.Proofs.Ytejbpnmcoobboaa.PureFnExactCompareBig
namespace Go.Proofs.Ytejbpnmcoobboaa.Pure
theorem FnExactCompareBig : Go.Proofs.Ytejbpnmcoobboaa.PFnExactCompareBig.laws_FnExactCompareBig.Pure := Go.Proofs.Ytejbpnmcoobboaa.PureFnExactCompareBig.main
end Go.Proofs.Ytejbpnmcoobboaa.Pure
