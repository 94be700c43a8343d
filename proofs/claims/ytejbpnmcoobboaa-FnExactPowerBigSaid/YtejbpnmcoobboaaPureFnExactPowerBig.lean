/- The law FnExactPowerBig returns true for all pairs of whole numbers of 64 bits. -/
import Derived.Test.YtejbpnmcoobboaaPFnExactPowerBigx3
import Derived.Test.YtejbpnmcoobboaaM0
import Derived.Test.YtejbpnmcoobboaaM1
namespace Go.Proofs.Ytejbpnmcoobboaa.PureFnExactPowerBig
open Go Go.RowKit Go.Proofs.Ytejbpnmcoobboaa.PFnExactPowerBig Go.Proofs.Ytejbpnmcoobboaa.My Go.Proofs.YtejbpnmcoobboaaW.PrintWords Go.Proofs.YtejbpnmcoobboaaW.PrintLast Go.Proofs.YtejbpnmcoobboaaW.PrintMore
set_option linter.unusedVariables false
set_option linter.unusedSimpArgs false
theorem within_eq (a b c : Int) : impl_within.f a b c = some (decide (b ≤ a ∧ a ≤ c)) := by
  unfold impl_within.f
  by_cases h : b ≤ a <;> simp [h]
theorem l01In_eq (a b c : Int) : spec_l01In.f a b c = some (decide (b ≤ a ∧ a ≤ c)) := by
  unfold spec_l01In.f
  by_cases h : b ≤ a <;> simp [h]
theorem eqIntS_loop (l m : List Int) (hl : l.length ≤ 17592186044416) (hm : l.length = m.length) : ∀ (d i : Nat), i + d = l.length →
    Ev (fun k => laws_eqIntS.l0 k l m (i : Int)) (decide (l.drop i = m.drop i)) := by
  intro d
  induction d with
  | zero =>
    intro i hi
    refine Ev_at1 fun k => ?_
    simp only [laws_eqIntS.l0]
    rw [if_neg (by omega), List.drop_eq_nil_of_le (by omega), List.drop_eq_nil_of_le (by omega)]
    simp
  | succ d ih =>
    intro i hi
    rw [drop_cons l i (by omega), drop_cons m i (by omega)]
    by_cases h : rd l (i : Int) = rd m (i : Int)
    · refine Ev_round _ (fun k => ?_) (Ev.congr (fun k => rfl) (show Ev (fun k => laws_eqIntS.l0 k l m ((i + 1 : Nat) : Int)) _ from ?_))
      · simp only [laws_eqIntS.l0]
        rw [if_pos (by omega), if_pos (by omega), if_pos (by omega), if_pos h, wrap_id (by omega) (by omega)]
        rfl
      · have := ih (i + 1) (by omega)
        simpa [h] using this
    · refine Ev_at1 fun k => ?_
      simp only [laws_eqIntS.l0]
      rw [if_pos (by omega), if_pos (by omega), if_pos (by omega), if_neg h]
      simp [h]
theorem eqIntS_ev (l m : List Int) (hl : l.length ≤ 17592186044416) : Ev (fun k => laws_eqIntS.f k l m) (decide (l = m)) := by
  unfold laws_eqIntS.f
  by_cases h : l.length = m.length
  · refine Ev.congr (fun k => by rw [if_pos (by omega)]) ?_
    have := eqIntS_loop l m hl h l.length 0 (by simp)
    simpa using this
  · refine Ev_eq fun k => ?_
    rw [if_neg (by omega)]
    have : l ≠ m := fun e => h (by rw [e])
    simp [this]
theorem eqIntS_self (l : List Int) (hl : l.length ≤ 17592186044416) : Ev (fun k => laws_eqIntS.f k l l) true := by
  have := eqIntS_ev l l hl; simpa using this
/-- The numbers from m on, as many as a list has elements. -/
def upFrom (m : Int) : Nat → List Int
  | 0 => []
  | n + 1 => m :: upFrom (m + 1) n
theorem upFrom_length (m : Int) (n : Nat) : (upFrom m n).length = n := by
  induction n generalizing m with
  | zero => rfl
  | succ n ih => simp [upFrom, ih]
theorem upFrom_rd (m : Int) (n i : Nat) (h : i < n) : rd (upFrom m n) (i : Int) = m + i := by
  induction n generalizing m i with
  | zero => omega
  | succ n ih =>
    cases i with
    | zero => simp [upFrom, rd]
    | succ i =>
      have := ih (m + 1) i (by omega)
      rw [rd_nat] at this ⊢
      simp only [upFrom, List.getD_cons_succ]
      rw [this]; omega
theorem markIntS_loop (n : Nat) (hn : n ≤ 17592186044416) : ∀ (d i : Nat) (acc : List Int), acc.length = n → i + d = n → acc.take i = (upFrom 1 n).take i →
    Ev (fun k => laws_markIntS.l0 k acc (1 + (i : Int)) (i : Int)) (1 + (n : Int), upFrom 1 n) := by
  intro d
  induction d with
  | zero =>
    intro i acc ha hi ht
    refine Ev_at1 fun k => ?_
    simp only [laws_markIntS.l0]
    rw [if_neg (by omega)]
    rw [show i = n from by omega, List.take_of_length_le (by omega), List.take_of_length_le (by rw [upFrom_length]; omega)] at ht
    rw [ht, show i = n from by omega]
  | succ d ih =>
    intro i acc ha hi ht
    refine Ev_round _ (fun k => ?_) (ih (i + 1) (acc.set i (1 + (i : Int))) (by simp [ha]) (by omega) ?_)
    · simp only [laws_markIntS.l0]
      rw [if_pos (by omega), if_pos (by omega), wrap_id (by omega) (by omega), wrap_id (by omega) (by omega)]
      simp [Int.add_assoc]
    · rw [take_snoc (upFrom 1 n) i (by rw [upFrom_length]; omega), List.take_succ_eq_append_getElem (by simp; omega), List.getElem_set_self, List.take_set_of_le (Nat.le_refl _), ht, upFrom_rd _ _ _ (by omega)]
theorem markIntS_ev (l : List Int) (hl : l.length ≤ 17592186044416) : Ev (fun k => laws_markIntS.f k l 1) (1 + (l.length : Int), upFrom 1 l.length) := by
  unfold laws_markIntS.f
  exact markIntS_loop l.length hl l.length 0 l rfl (by simp) (by simp)
theorem heldIntS_loop (n : Nat) (hn : n ≤ 17592186044416) : ∀ (d i : Nat), i + d = n →
    Ev (fun k => laws_heldIntS.l0 k (upFrom 1 n) (1 + (i : Int)) (i : Int)) (1 + (n : Int)) := by
  intro d
  induction d with
  | zero =>
    intro i hi
    refine Ev_at1 fun k => ?_
    simp only [laws_heldIntS.l0]
    rw [if_neg (by rw [upFrom_length]; omega), show i = n from by omega]
  | succ d ih =>
    intro i hi
    refine Ev_round _ (fun k => ?_) (ih (i + 1) (by omega))
    simp only [laws_heldIntS.l0]
    rw [if_pos (by rw [upFrom_length]; omega), if_pos (by omega), upFrom_rd _ _ _ (by omega), if_pos rfl, wrap_id (by omega) (by omega), wrap_id (by omega) (by omega)]
    simp [Int.add_assoc]
theorem heldIntS_ev (n : Nat) (hn : n ≤ 17592186044416) : Ev (fun k => laws_heldIntS.f k (upFrom 1 n) 1) (1 + (n : Int)) := by
  unfold laws_heldIntS.f
  exact heldIntS_loop n hn n 0 (by simp)
/-- A row of groups that is a valid large number. -/
def Big (l : List Int) : Prop := Dig l ∧ l.length ≤ 120 ∧ (l.length = 0 ∨ rd l ((l.length : Int) - 1) ≠ 0)
instance (l : List Int) : Decidable (Big l) := by unfold Big; infer_instance
theorem Big_iff {l : List Int} : Big l ↔ Canon l ∧ l.length ≤ 120 := by
  unfold Big Canon
  constructor
  · rintro ⟨h1, h2, h3⟩
    refine ⟨⟨h1, ?_⟩, h2⟩
    by_cases hz : l.length = 0
    · rw [List.length_eq_zero_iff.1 hz]; exact Top_nil
    · exact Top_last (by omega) (h3.resolve_left hz)
  · rintro ⟨⟨h1, h2⟩, h3⟩
    refine ⟨h1, h3, ?_⟩
    by_cases hz : l.length = 0
    · exact .inl hz
    · have hne : l ≠ [] := List.length_pos_iff.1 (by omega)
      right
      rw [rd_last l hne]
      intro e
      apply h2
      rw [List.getLast?_eq_some_getLast hne, e]
theorem sBigOk_end (l : List Int) (hl : l.length ≤ 17592186044416) (hd : Dig l) (k : Nat) : spec_BigOk.l0 (k + 1) l (l.length : Int) = some (decide (Big l)) := by
  simp only [spec_BigOk.l0]
  rw [if_neg (by omega)]
  by_cases h1 : l.length ≤ 120
  · rw [if_pos (by omega)]
    by_cases h2 : l.length = 0
    · rw [if_pos (by omega)]; simp [Big, hd, h1, h2]
    · rw [if_neg (by omega), wrap_id (by omega) (by omega), if_pos (by omega), if_pos (by omega)]
      simp only [Big, hd, h1, h2, true_and, false_or, Option.some.injEq]
      rw [Bool.eq_iff_iff]; simp
  · rw [if_neg (by omega)]; simp [Big, h1]
theorem sBigOk_loop (l : List Int) (hl : l.length ≤ 17592186044416) : ∀ (d i : Nat), i + d = l.length → Dig (l.take i) →
    Ev (fun k => spec_BigOk.l0 k l (i : Int)) (decide (Big l)) := by
  intro d
  induction d with
  | zero =>
    intro i hi hd
    refine Ev_at1 fun k => ?_
    rw [show i = l.length from by omega]
    exact sBigOk_end l hl (by rw [show i = l.length from by omega, List.take_length] at hd; exact hd) k
  | succ d ih =>
    intro i hi hd
    by_cases h : 0 ≤ rd l (i : Int) ∧ rd l (i : Int) ≤ 9999
    · refine Ev_round _ (fun k => ?_) (ih (i + 1) (by omega) ?_)
      · simp only [spec_BigOk.l0]
        rw [if_pos (by omega), if_pos (by omega), l01In_eq, Option.bind_some, if_pos (by simpa using h), wrap_id (by omega) (by omega)]
        simp
      · rw [take_snoc l i (by omega)]
        intro x hx
        rcases List.mem_append.1 hx with hx | hx
        · exact hd x hx
        · rw [List.mem_singleton.1 hx]; exact h
    · refine Ev_at1 fun k => ?_
      simp only [spec_BigOk.l0]
      rw [if_pos (by omega), if_pos (by omega), l01In_eq, Option.bind_some, if_neg (by simpa using h)]
      have : ¬ Big l := fun hb => h (hb.1 _ (rd_mem l _ (by omega) (by omega)))
      simp [this]
theorem sBigOk_ev (l : List Int) (hl : l.length ≤ 17592186044416) : Ev (fun k => spec_BigOk.f k l) (decide (Big l)) := by
  unfold spec_BigOk.f
  exact sBigOk_loop l hl l.length 0 (by simp) (by simp [Dig])
theorem it_l2 : ∀ (m : Nat) (out : List Int), out.length = m → m ≤ 2000000 → Dig out → ∃ r, Canon r ∧ val r = val out ∧ Ev (fun k => impl_times.l2 k out) r := by
  intro m
  induction m with
  | zero =>
    intro out hl _ hd
    obtain rfl : out = [] := List.length_eq_zero_iff.1 hl
    refine ⟨[], ⟨Dig_nil, Top_nil⟩, rfl, Ev_at1 fun k => ?_⟩
    simp [impl_times.l2]
  | succ m ih =>
    intro out hl hm hd
    have hs := take_len_succ hl
    have hw : wrap64 ((out.length : Int) - 1) = (m : Int) := by rw [wrap_id (by omega) (by omega)]; omega
    by_cases h0 : rd out (m : Int) = 0
    · obtain ⟨r, hr, hv, he⟩ := ih (out.take m) (by rw [List.length_take]; omega) (by omega) (Dig_take hd m)
      refine ⟨r, hr, ?_, Ev_round _ (fun k => ?_) he⟩
      · rw [hv]
        conv => rhs; rw [hs, val_snoc, h0]
        omega
      · simp only [impl_times.l2]
        rw [hw, if_pos (by omega), if_pos (by omega), if_pos (by omega), if_pos h0, if_pos (by omega)]
        rfl
    · refine ⟨out, ⟨hd, Top_last (by omega) (by rw [show (out.length : Int) - 1 = (m : Int) from by omega]; exact h0)⟩, rfl, Ev_at1 fun k => ?_⟩
      simp only [impl_times.l2]
      rw [hw, if_pos (by omega), if_pos (by omega), if_pos (by omega), if_neg h0]
theorem it_l1 : ∀ (f : Nat) (c : Int) (out : List Int), 0 ≤ c → c ≤ 10000000000000 → c < (10000 : Int) ^ f → Dig out → out.length + f ≤ 2000000 →
    ∃ r, Canon r ∧ val r = val out + B out.length * c ∧ Ev (fun k => impl_times.l1 k out c) r := by
  intro f
  induction f with
  | zero =>
    intro c out h0 _ h1 hd hl
    have hc : c = 0 := by simp at h1; omega
    obtain ⟨r, hr, hv, he⟩ := it_l2 out.length out rfl (by omega) hd
    refine ⟨r, hr, by rw [hv, hc]; omega, Ev_round _ (fun k => ?_) he⟩
    simp only [impl_times.l1]
    rw [if_neg (by omega)]
  | succ f ih =>
    intro c out h0 h2 h1 hd hl
    by_cases hc : c > 0
    · have hq : c / 10000 < (10000 : Int) ^ f := by rw [Int.pow_succ] at h1; exact Int.ediv_lt_of_lt_mul (by omega) h1
      obtain ⟨r, hr, hv, he⟩ := ih (c / 10000) (out ++ [c % 10000]) (by omega) (by omega) hq (Dig_snoc hd (mod_dig c)) (by simp; omega)
      refine ⟨r, hr, ?_, Ev_round _ (fun k => ?_) he⟩
      · rw [hv, val_snoc, List.length_append, List.length_singleton, B_succ, Int.mul_comm 10000, Int.mul_assoc, Int.add_assoc, ← Int.mul_add, Int.emod_add_mul_ediv]
      · obtain ⟨e1, e2⟩ := dm_nonneg (show 0 ≤ c by omega)
        simp only [impl_times.l1]
        rw [if_pos hc, if_pos (by omega), e1, e2, wrap_id (by omega) (by omega)]
    · have hc : c = 0 := by omega
      obtain ⟨r, hr, hv, he⟩ := it_l2 out.length out rfl (by omega) hd
      refine ⟨r, hr, by rw [hv, hc]; omega, Ev_round _ (fun k => ?_) he⟩
      simp only [impl_times.l1]
      rw [if_neg (by omega)]
theorem it_l0 (b : List Int) (hb : Dig b) (hl : b.length ≤ 1000000) (n : Int) (hn : 0 ≤ n ∧ n ≤ 10000000000000) : ∀ (d i : Nat) (out : List Int) (c : Int), i + d = b.length → out.length = i → Dig out → 0 ≤ c ∧ c ≤ n →
    val out + B i * c = n * val (b.take i) → ∃ r, Canon r ∧ val r = n * val b ∧ Ev (fun k => impl_times.l0 k n out c b (b.length : Int) (i : Int)) r := by
  intro d
  induction d with
  | zero =>
    intro i out c hi ho hd hc hv
    obtain ⟨r, hr, hrv, he⟩ := it_l1 5 c out hc.1 (by omega) (by omega) hd (by omega)
    refine ⟨r, hr, ?_, Ev_round _ (fun k => ?_) he⟩
    · rw [hrv, ho, hv, show i = b.length from by omega, List.take_length]
    · simp only [impl_times.l0]
      rw [if_neg (by omega)]
  | succ d ih =>
    intro i out c hi ho hd hc hv
    have hg := hb _ (rd_mem b (i : Int) (by omega) (by omega))
    have hcb := carry_bd hg hn.1 hc
    generalize hx : rd b (i : Int) * n + c = x at hcb
    obtain ⟨r, hr, hrv, he⟩ := ih (i + 1) (out ++ [x % 10000]) (x / 10000) (by omega) (by simp [ho]) (Dig_snoc hd (mod_dig x)) hcb.2.2 (by
      rw [val_snoc, ho, B_succ, take_snoc b i (by omega), val_snoc, List.length_take, Nat.min_eq_left (by omega)]
      exact mul_step hv hx.symm)
    refine ⟨r, hr, hrv, Ev_round _ (fun k => ?_) he⟩
    obtain ⟨e1, e2⟩ := dm_nonneg hcb.1
    have hm : 0 ≤ rd b (i : Int) * n := Int.mul_nonneg hg.1 hn.1
    simp only [impl_times.l0]
    rw [if_pos (by omega), if_pos (by omega), if_pos (by omega), if_pos (by omega), wrap_id (n := rd b (i : Int) * n) (by omega) (by omega), hx, wrap_id (n := x) (by omega) (by omega), e1, e2, wrap_id (n := x / 10000) (by omega) (by omega), wrap_id (n := (i : Int) + 1) (by omega) (by omega)]
    simp
theorem itimes_ev {b : List Int} (hb : Dig b) (hl : b.length ≤ 1000000) {n : Int} (hn : 0 ≤ n ∧ n ≤ 10000000000000) : ∃ r, Canon r ∧ val r = n * val b ∧ Ev (fun k => impl_times.f k b n) r := by
  have := it_l0 b hb hl n hn b.length 0 [] 0 (by omega) rfl Dig_nil (by omega) (by simp [val])
  simpa [impl_times.f] using this
/-- What a product comes to as a checked large number. -/
def fit (r : List Int) : List Int × Bool := if r.length ≤ 120 then (r, true) else ([], false)
theorem sTB_l0 (b : List Int) (hb : Canon b) (hl : b.length ≤ 1000000) {n : Int} (hn : 1 ≤ n ∧ n ≤ 1000) : ∀ (d i : Nat) (out : List Int) (c : Int), i + d = b.length → out.length = i → Dig out → 0 ≤ c ∧ c ≤ n →
    val out + B i * c = n * val (b.take i) → ∃ r, Canon r ∧ val r = n * val b ∧ Ev (fun k => spec_TimesBig.l0 k b n out c (i : Int)) (fit r) := by
  intro d
  induction d with
  | zero =>
    intro i out c hi ho hd hc hv
    have hib : i = b.length := by omega
    rw [hib, List.take_length] at hv
    by_cases h0 : c > 0
    · refine ⟨out ++ [c], ⟨Dig_snoc hd (by omega), Top_last (by simp) ?_⟩, ?_, Ev_at1 fun k => ?_⟩
      · rw [show ((out ++ [c]).length : Int) - 1 = (out.length : Int) from by simp, rd_nat]; simp; omega
      · rw [val_snoc, ho, hib, hv]
      · simp only [spec_TimesBig.l0, Option.bind_some]
        rw [if_neg (by omega), if_pos h0, if_pos (by omega)]
        unfold fit
        by_cases hq : (out ++ [c]).length ≤ 120
        · rw [if_neg (by omega), if_pos hq]
        · rw [if_pos (by omega), if_neg hq]
    · have hc0 : c = 0 := by omega
      rw [hc0, Int.mul_zero, Int.add_zero] at hv
      refine ⟨out, ⟨hd, ?_⟩, hv, Ev_at1 fun k => ?_⟩
      · by_cases hne : out = []
        · rw [hne]; exact Top_nil
        · have hbne : b ≠ [] := by intro q; rw [q] at hib; simp at hib; rw [hib] at ho; exact hne (List.length_eq_zero_iff.1 ho)
          refine (Top_iff hd hne).2 ?_
          have h1 := (Top_iff hb.1 hbne).1 hb.2
          have h2 := (val_bd hb.1).1
          have h3 := Int.mul_le_mul_of_nonneg_right hn.1 h2
          rw [hv, ho, hib]; omega
      · simp only [spec_TimesBig.l0]
        rw [if_neg (by omega), if_neg h0]
        unfold fit
        by_cases hq : out.length ≤ 120
        · rw [if_neg (by omega), if_pos hq]
        · rw [if_pos (by omega), if_neg hq]
  | succ d ih =>
    intro i out c hi ho hd hc hv
    have hg := hb.1 _ (rd_mem b (i : Int) (by omega) (by omega))
    have hcb := carry_bd hg (show 0 ≤ n by omega) hc
    have hm : 0 ≤ rd b (i : Int) * n := Int.mul_nonneg hg.1 (by omega)
    generalize hx : rd b (i : Int) * n + c = x at hcb
    obtain ⟨r, hr, hrv, he⟩ := ih (i + 1) (out ++ [x % 10000]) (x / 10000) (by omega) (by simp [ho]) (Dig_snoc hd (mod_dig x)) hcb.2.2 (by
      rw [val_snoc, ho, B_succ, take_snoc b i (by omega), val_snoc, List.length_take, Nat.min_eq_left (by omega)]
      exact mul_step hv hx.symm)
    refine ⟨r, hr, hrv, Ev_round _ (fun k => ?_) he⟩
    obtain ⟨e1, e2⟩ := dm_nonneg hcb.1
    simp only [spec_TimesBig.l0]
    rw [if_pos (by omega), if_pos (by omega), if_pos (by omega), wrap_id (n := rd b (i : Int) * n) (by omega) (by omega), hx, wrap_id (n := x) (by omega) (by omega), e1, e2, wrap_id (n := x / 10000) (by omega) (by omega), wrap_id (n := (i : Int) + 1) (by omega) (by omega)]
    simp
theorem sTimesBig_no {b : List Int} (hl : b.length ≤ 17592186044416) {n : Int} (h : ¬ (Big b ∧ (0 ≤ n ∧ n ≤ 1000))) : Ev (fun k => spec_TimesBig.f k b n) ([], false) := by
  unfold spec_TimesBig.f
  have hj : Ev (fun k => spec_TimesBig.j0 k b n [] true) ([], false) := Ev_at1 fun k => by simp [spec_TimesBig.j0]
  refine Ev_bindE (fun k => rfl) (Ev.bind (sBigOk_ev b hl) ?_)
  by_cases hb : Big b
  · refine Ev.congr (fun k => by rw [if_pos (by simpa using hb), l01In_eq, Option.bind_some]) ?_
    have hn : ¬ (0 ≤ n ∧ n ≤ 1000) := fun q => h ⟨hb, q⟩
    simpa [hn] using hj
  · exact Ev.congr (fun k => by rw [if_neg (by simpa using hb)]) hj
theorem sTimesBig_yes {b : List Int} (hb : Big b) {n : Int} (hn : 0 ≤ n ∧ n ≤ 1000) : ∃ r, Canon r ∧ val r = n * val b ∧ Ev (fun k => spec_TimesBig.f k b n) (fit r) := by
  obtain ⟨hc, hl⟩ := Big_iff.1 hb
  unfold spec_TimesBig.f
  have key : ∀ {r : List Int}, Ev (fun k => spec_TimesBig.j0 k b n [] false) (fit r) → Ev (fun k => (some (([] : List Int) : List Int)).bind fun y111 => ((spec_BigOk.f k b).bind fun t114 => (if t114 = true then ((spec_l01In.f n 0 1000).bind fun t115 => (spec_TimesBig.j0 k b n y111 (!t115))) else (spec_TimesBig.j0 k b n y111 true)))) (fit r) := by
    intro r hr
    refine Ev_bindE (fun k => rfl) (Ev.bind (sBigOk_ev b (by omega)) (Ev.congr (fun k => by rw [if_pos (by simpa using hb), l01In_eq, Option.bind_some]) ?_))
    rw [show (!decide (0 ≤ n ∧ n ≤ 1000)) = false from by simpa using hn]
    exact hr
  by_cases h0 : n = 0
  · refine ⟨[], ⟨Dig_nil, Top_nil⟩, by simp [val, h0], key (Ev_at1 fun k => ?_)⟩
    simp only [spec_TimesBig.j0, Bool.false_eq_true, if_false]
    rw [if_pos h0]; rfl
  · obtain ⟨r, hr, hv, he⟩ := sTB_l0 b hc (by omega) (n := n) (by omega) b.length 0 [] 0 (by omega) rfl Dig_nil (by omega) (by simp [val])
    refine ⟨r, hr, hv, key (Ev_round _ (fun k => ?_) he)⟩
    simp only [spec_TimesBig.j0, Bool.false_eq_true, if_false]
    rw [if_neg h0]
    rfl
theorem pow_both {p e : Int} (hp : 1 ≤ p ∧ p ≤ 1000) (he : e ≤ 2000) : ∀ (d : Nat) (i : Int) (out : List Int), 0 ≤ i → i + d = e → Canon out → out.length ≤ 120 →
    ∃ res : List Int × Bool, res.1.length ≤ 120 ∧ Ev (fun k => spec_PowerBig.l0 k p e out i) res ∧ Ev (fun k => impl_PowerBig.l0 k p e out i) res := by
  intro d
  induction d with
  | zero =>
    intro i out h0 hi hc hl
    refine ⟨(out, true), hl, Ev_at1 fun k => ?_, Ev_at1 fun k => ?_⟩
    · simp only [spec_PowerBig.l0]; rw [if_neg (by omega)]
    · simp only [impl_PowerBig.l0]; rw [if_neg (by omega)]
  | succ d ih =>
    intro i out h0 hi hc hl
    obtain ⟨r, hr, hv, hs⟩ := sTimesBig_yes (b := out) (Big_iff.2 ⟨hc, hl⟩) (n := p) (by omega)
    obtain ⟨r', hr', hv', hi'⟩ := itimes_ev hc.1 (by omega) (n := p) (by omega)
    have e := Canon_inj hr hr' (by rw [hv, hv'])
    subst e
    by_cases hq : r.length ≤ 120
    · obtain ⟨res, hres, h1, h2⟩ := ih (i + 1) r (by omega) (by omega) hr hq
      have hf : fit r = (r, true) := if_pos hq
      rw [hf] at hs
      refine ⟨res, hres, Ev_round (fun k => (spec_TimesBig.f k out p).bind fun bt => (if bt.2 = true then (spec_PowerBig.l0 k p e bt.1 (i + 1)) else (some ([], false)))) (fun k => ?_) (Ev.bind hs (Ev.congr (f := fun k => spec_PowerBig.l0 k p e r (i + 1)) (fun k => by simp) h1)),
        Ev_round (fun k => (impl_times.f k out p).bind fun t => (if (t.length : Int) > 120 then (some ([], false)) else (impl_PowerBig.l0 k p e t (i + 1)))) (fun k => ?_) (Ev.bind hi' (Ev.congr (f := fun k => impl_PowerBig.l0 k p e r (i + 1)) (fun k => by rw [if_neg (by omega)]) h2))⟩
      · simp only [spec_PowerBig.l0]; rw [if_pos (by omega), wrap_id (by omega) (by omega)]
      · simp only [impl_PowerBig.l0]; rw [if_pos (by omega), wrap_id (by omega) (by omega)]
    · have hf : fit r = ([], false) := if_neg hq
      rw [hf] at hs
      refine ⟨([], false), by simp, Ev_round (fun k => (spec_TimesBig.f k out p).bind fun bt => (if bt.2 = true then (spec_PowerBig.l0 k p e bt.1 (i + 1)) else (some ([], false)))) (fun k => ?_) (Ev.bind hs (Ev_eq fun k => by simp)),
        Ev_round (fun k => (impl_times.f k out p).bind fun t => (if (t.length : Int) > 120 then (some ([], false)) else (impl_PowerBig.l0 k p e t (i + 1)))) (fun k => ?_) (Ev.bind hi' (Ev_eq fun k => by rw [if_pos (by omega)]))⟩
      · simp only [spec_PowerBig.l0]; rw [if_pos (by omega), wrap_id (by omega) (by omega)]
      · simp only [impl_PowerBig.l0]; rw [if_pos (by omega), wrap_id (by omega) (by omega)]
theorem both (p e : Int) : ∃ res : List Int × Bool, res.1.length ≤ 120 ∧ Ev (fun k => spec_PowerBig.f k p e) res ∧ Ev (fun k => impl_PowerBig.f k p e) res := by
  unfold spec_PowerBig.f impl_PowerBig.f
  simp only [within_eq, l01In_eq, Option.bind_some]
  have hjs : Ev (fun k => spec_PowerBig.j0 k p e [1] true) ([], false) := Ev_at1 fun k => by simp [spec_PowerBig.j0]
  have hji : Ev (fun k => impl_PowerBig.j0 k p e true) ([], false) := Ev_at1 fun k => by simp [impl_PowerBig.j0]
  by_cases h1 : 1 ≤ p ∧ p ≤ 1000
  · by_cases h2 : 0 ≤ e ∧ e ≤ 2000
    · obtain ⟨res, hl, hs, hi⟩ := pow_both h1 h2.2 e.toNat 0 [1] (by omega) (by omega) Canon_one (by simp)
      refine ⟨res, hl, ?_, ?_⟩
      · simp only [h1, h2, and_self, decide_true, Bool.not_true, if_true]
        exact Ev_round _ (fun k => by simp only [spec_PowerBig.j0, Bool.false_eq_true, if_false]) hs
      · simp only [h1, h2, and_self, decide_true, Bool.not_true, if_true]
        exact Ev_round _ (fun k => by simp only [impl_PowerBig.j0, Bool.false_eq_true, if_false]) hi
    · refine ⟨([], false), by simp, ?_, ?_⟩
      · simpa [h1, h2] using hjs
      · simpa [h1, h2] using hji
  · refine ⟨([], false), by simp, ?_, ?_⟩
    · simpa [h1] using hjs
    · simpa [h1] using hji
theorem main : laws_FnExactPowerBig.Pure := by
  intro p e _ _
  refine Ev.rounds ?_
  unfold laws_FnExactPowerBig.f
  obtain ⟨⟨g, ok⟩, hg, hs, hi⟩ := both p e
  simp only at hg
  refine Ev.bind hs (Ev.bind hi (Ev.bind (eqIntS_self g (by omega)) ?_))
  refine Ev.congr (f := fun k => laws_FnExactPowerBig.j0 k p e g ok g false) (fun k => by simp) ?_
  refine Ev_round _ (fun k => by simp only [laws_FnExactPowerBig.j0, Bool.false_eq_true, if_false]; rfl) (Ev.bind (markIntS_ev g (by omega)) (Ev.bind (heldIntS_ev g.length (by omega)) ?_))
  refine Ev.congr (fun k => by rw [if_neg (by omega), if_pos rfl]) (Ev.bind hi (Ev.bind (eqIntS_self g (by omega)) ?_))
  refine Ev.congr (f := fun k => laws_FnExactPowerBig.j1 k (upFrom 1 g.length) (1 + (g.length : Int)) false) (fun k => by simp) ?_
  refine Ev_round _ (fun k => by simp only [laws_FnExactPowerBig.j1, Bool.false_eq_true, if_false]; rfl) (Ev.bind (heldIntS_ev g.length (by omega)) (Ev_eq fun k => ?_))
  rw [if_neg (by omega), if_pos rfl]

end Go.Proofs.Ytejbpnmcoobboaa.PureFnExactPowerBig
namespace Go.Proofs.Ytejbpnmcoobboaa.Pure
theorem FnExactPowerBig : Go.Proofs.Ytejbpnmcoobboaa.PFnExactPowerBig.laws_FnExactPowerBig.Pure := Go.Proofs.Ytejbpnmcoobboaa.PureFnExactPowerBig.main
end Go.Proofs.Ytejbpnmcoobboaa.Pure
