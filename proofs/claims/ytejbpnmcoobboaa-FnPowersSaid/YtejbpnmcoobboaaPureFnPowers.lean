/- The law FnPowers returns true for all byte slices. -/
import Derived.Test.YtejbpnmcoobboaaPFnPowersx2
import Derived.Test.YtejbpnmcoobboaaM0
import Derived.Test.YtejbpnmcoobboaaM1
namespace Go.Proofs.Ytejbpnmcoobboaa.PureFnPowers
open Go Go.RowKit Go.Proofs.Ytejbpnmcoobboaa.PFnPowers Go.Proofs.Ytejbpnmcoobboaa.My Go.Proofs.YtejbpnmcoobboaaW.PrintWords Go.Proofs.YtejbpnmcoobboaaW.PrintLast Go.Proofs.YtejbpnmcoobboaaW.PrintMore
set_option linter.unusedVariables false
set_option linter.unusedSimpArgs false
theorem within_eq (a b c : Int) : impl_within.f a b c = some (decide (b ≤ a ∧ a ≤ c)) := by
  unfold impl_within.f
  by_cases h : b ≤ a <;> simp [h]
/-- A row of groups that is a valid large number. -/
def Big (l : List Int) : Prop := Dig l ∧ l.length ≤ 120 ∧ (l.length = 0 ∨ rd l ((l.length : Int) - 1) ≠ 0)
instance (l : List Int) : Decidable (Big l) := by unfold Big; infer_instance
theorem Big_iff {l : List Int} : Big l ↔ Canon l ∧ l.length ≤ 120 := by
  unfold Big Canon
  constructor
  · rintro ⟨h1, h2, h3⟩
    refine ⟨⟨h1, ?_⟩, h2⟩
    by_cases hz : l.length = 0
    · rw [List.length_eq_zero_iff.1 hz]; exact Top_nil
    · exact Top_last (by omega) (h3.resolve_left hz)
  · rintro ⟨⟨h1, h2⟩, h3⟩
    refine ⟨h1, h3, ?_⟩
    by_cases hz : l.length = 0
    · exact .inl hz
    · have hne : l ≠ [] := List.length_pos_iff.1 (by omega)
      right
      rw [rd_last l hne]
      intro e
      apply h2
      rw [List.getLast?_eq_some_getLast hne, e]
theorem iBigOk_end (l : List Int) (hl : l.length ≤ 17592186044416) (hd : Dig l) (k : Nat) : impl_BigOk.l0 (k + 1) l l (l.length : Int) (l.length : Int) = some (decide (Big l)) := by
  simp only [impl_BigOk.l0]
  rw [if_neg (by omega)]
  by_cases h1 : l.length ≤ 120
  · rw [if_pos (by omega)]
    by_cases h2 : l.length = 0
    · rw [if_pos (by omega)]; simp [Big, hd, h1, h2]
    · rw [if_neg (by omega), wrap_id (by omega) (by omega), if_pos (by omega), if_pos (by omega)]
      simp only [Big, hd, h1, h2, true_and, false_or, Option.some.injEq]
      rw [Bool.eq_iff_iff]; simp
  · rw [if_neg (by omega)]; simp [Big, h1]
theorem iBigOk_loop (l : List Int) (hl : l.length ≤ 17592186044416) : ∀ (d i : Nat), i + d = l.length → Dig (l.take i) →
    Ev (fun k => impl_BigOk.l0 k l l (l.length : Int) (i : Int)) (decide (Big l)) := by
  intro d
  induction d with
  | zero =>
    intro i hi hd
    refine Ev_at1 fun k => ?_
    rw [show i = l.length from by omega]
    exact iBigOk_end l hl (by rw [show i = l.length from by omega, List.take_length] at hd; exact hd) k
  | succ d ih =>
    intro i hi hd
    by_cases h : 0 ≤ rd l (i : Int) ∧ rd l (i : Int) ≤ 9999
    · refine Ev_round _ (fun k => ?_) (ih (i + 1) (by omega) ?_)
      · simp only [impl_BigOk.l0]
        rw [if_pos (by omega), if_pos (by omega), if_pos (by omega), within_eq, Option.bind_some, if_pos (by simpa using h), wrap_id (by omega) (by omega)]
        simp
      · rw [take_snoc l i (by omega)]
        intro x hx
        rcases List.mem_append.1 hx with hx | hx
        · exact hd x hx
        · rw [List.mem_singleton.1 hx]; exact h
    · refine Ev_at1 fun k => ?_
      simp only [impl_BigOk.l0]
      rw [if_pos (by omega), if_pos (by omega), if_pos (by omega), within_eq, Option.bind_some, if_neg (by simpa using h)]
      have : ¬ Big l := fun hb => h (hb.1 _ (rd_mem l _ (by omega) (by omega)))
      simp [this]
theorem iBigOk_ev (l : List Int) (hl : l.length ≤ 17592186044416) : Ev (fun k => impl_BigOk.f k l) (decide (Big l)) := by
  unfold impl_BigOk.f
  exact iBigOk_loop l hl l.length 0 (by simp) (by simp [Dig])
theorem it_l2 : ∀ (m : Nat) (out : List Int), out.length = m → m ≤ 2000000 → Dig out → ∃ r, Canon r ∧ val r = val out ∧ Ev (fun k => impl_times.l2 k out) r := by
  intro m
  induction m with
  | zero =>
    intro out hl _ hd
    obtain rfl : out = [] := List.length_eq_zero_iff.1 hl
    refine ⟨[], ⟨Dig_nil, Top_nil⟩, rfl, Ev_at1 fun k => ?_⟩
    simp [impl_times.l2]
  | succ m ih =>
    intro out hl hm hd
    have hs := take_len_succ hl
    have hw : wrap64 ((out.length : Int) - 1) = (m : Int) := by rw [wrap_id (by omega) (by omega)]; omega
    by_cases h0 : rd out (m : Int) = 0
    · obtain ⟨r, hr, hv, he⟩ := ih (out.take m) (by rw [List.length_take]; omega) (by omega) (Dig_take hd m)
      refine ⟨r, hr, ?_, Ev_round _ (fun k => ?_) he⟩
      · rw [hv]
        conv => rhs; rw [hs, val_snoc, h0]
        omega
      · simp only [impl_times.l2]
        rw [hw, if_pos (by omega), if_pos (by omega), if_pos (by omega), if_pos h0, if_pos (by omega)]
        rfl
    · refine ⟨out, ⟨hd, Top_last (by omega) (by rw [show (out.length : Int) - 1 = (m : Int) from by omega]; exact h0)⟩, rfl, Ev_at1 fun k => ?_⟩
      simp only [impl_times.l2]
      rw [hw, if_pos (by omega), if_pos (by omega), if_pos (by omega), if_neg h0]
theorem it_l1 : ∀ (f : Nat) (c : Int) (out : List Int), 0 ≤ c → c ≤ 10000000000000 → c < (10000 : Int) ^ f → Dig out → out.length + f ≤ 2000000 →
    ∃ r, Canon r ∧ val r = val out + B out.length * c ∧ Ev (fun k => impl_times.l1 k out c) r := by
  intro f
  induction f with
  | zero =>
    intro c out h0 _ h1 hd hl
    have hc : c = 0 := by simp at h1; omega
    obtain ⟨r, hr, hv, he⟩ := it_l2 out.length out rfl (by omega) hd
    refine ⟨r, hr, by rw [hv, hc]; omega, Ev_round _ (fun k => ?_) he⟩
    simp only [impl_times.l1]
    rw [if_neg (by omega)]
  | succ f ih =>
    intro c out h0 h2 h1 hd hl
    by_cases hc : c > 0
    · have hq : c / 10000 < (10000 : Int) ^ f := by rw [Int.pow_succ] at h1; exact Int.ediv_lt_of_lt_mul (by omega) h1
      obtain ⟨r, hr, hv, he⟩ := ih (c / 10000) (out ++ [c % 10000]) (by omega) (by omega) hq (Dig_snoc hd (mod_dig c)) (by simp; omega)
      refine ⟨r, hr, ?_, Ev_round _ (fun k => ?_) he⟩
      · rw [hv, val_snoc, List.length_append, List.length_singleton, B_succ, Int.mul_comm 10000, Int.mul_assoc, Int.add_assoc, ← Int.mul_add, Int.emod_add_mul_ediv]
      · obtain ⟨e1, e2⟩ := dm_nonneg (show 0 ≤ c by omega)
        simp only [impl_times.l1]
        rw [if_pos hc, if_pos (by omega), e1, e2, wrap_id (by omega) (by omega)]
    · have hc : c = 0 := by omega
      obtain ⟨r, hr, hv, he⟩ := it_l2 out.length out rfl (by omega) hd
      refine ⟨r, hr, by rw [hv, hc]; omega, Ev_round _ (fun k => ?_) he⟩
      simp only [impl_times.l1]
      rw [if_neg (by omega)]
theorem it_l0 (b : List Int) (hb : Dig b) (hl : b.length ≤ 1000000) (n : Int) (hn : 0 ≤ n ∧ n ≤ 10000000000000) : ∀ (d i : Nat) (out : List Int) (c : Int), i + d = b.length → out.length = i → Dig out → 0 ≤ c ∧ c ≤ n →
    val out + B i * c = n * val (b.take i) → ∃ r, Canon r ∧ val r = n * val b ∧ Ev (fun k => impl_times.l0 k n out c b (b.length : Int) (i : Int)) r := by
  intro d
  induction d with
  | zero =>
    intro i out c hi ho hd hc hv
    obtain ⟨r, hr, hrv, he⟩ := it_l1 5 c out hc.1 (by omega) (by omega) hd (by omega)
    refine ⟨r, hr, ?_, Ev_round _ (fun k => ?_) he⟩
    · rw [hrv, ho, hv, show i = b.length from by omega, List.take_length]
    · simp only [impl_times.l0]
      rw [if_neg (by omega)]
  | succ d ih =>
    intro i out c hi ho hd hc hv
    have hg := hb _ (rd_mem b (i : Int) (by omega) (by omega))
    have hcb := carry_bd hg hn.1 hc
    generalize hx : rd b (i : Int) * n + c = x at hcb
    obtain ⟨r, hr, hrv, he⟩ := ih (i + 1) (out ++ [x % 10000]) (x / 10000) (by omega) (by simp [ho]) (Dig_snoc hd (mod_dig x)) hcb.2.2 (by
      rw [val_snoc, ho, B_succ, take_snoc b i (by omega), val_snoc, List.length_take, Nat.min_eq_left (by omega)]
      exact mul_step hv hx.symm)
    refine ⟨r, hr, hrv, Ev_round _ (fun k => ?_) he⟩
    obtain ⟨e1, e2⟩ := dm_nonneg hcb.1
    have hm : 0 ≤ rd b (i : Int) * n := Int.mul_nonneg hg.1 hn.1
    simp only [impl_times.l0]
    rw [if_pos (by omega), if_pos (by omega), if_pos (by omega), if_pos (by omega), wrap_id (n := rd b (i : Int) * n) (by omega) (by omega), hx, wrap_id (n := x) (by omega) (by omega), e1, e2, wrap_id (n := x / 10000) (by omega) (by omega), wrap_id (n := (i : Int) + 1) (by omega) (by omega)]
    simp
theorem itimes_ev {b : List Int} (hb : Dig b) (hl : b.length ≤ 1000000) {n : Int} (hn : 0 ≤ n ∧ n ≤ 10000000000000) : ∃ r, Canon r ∧ val r = n * val b ∧ Ev (fun k => impl_times.f k b n) r := by
  have := it_l0 b hb hl n hn b.length 0 [] 0 (by omega) rfl Dig_nil (by omega) (by simp [val])
  simpa [impl_times.f] using this
theorem io_loop (a b : List Int) (ha : Dig a) (hb : Dig b) (hl : a.length = b.length) (hs : a.length ≤ 2000000) : ∀ (j : Nat), j ≤ a.length → a.drop j = b.drop j →
    Ev (fun k => impl_order.l0 k a b ((j : Int) - 1)) (cmpI (val a) (val b)) := by
  intro j
  induction j with
  | zero =>
    intro _ hd
    have e : a = b := by simpa using hd
    refine Ev_at1 fun k => ?_
    simp only [impl_order.l0]
    rw [if_neg (by omega), e, cmpI_self]
  | succ j ih =>
    intro hj hd
    have hw : ((j + 1 : Nat) : Int) - 1 = (j : Int) := by omega
    rw [hw]
    rcases Int.lt_trichotomy (rd a (j : Int)) (rd b (j : Int)) with h | h | h
    · refine Ev_at1 fun k => ?_
      simp only [impl_order.l0]
      rw [if_pos (by omega), if_pos (by omega), if_pos (by omega), if_pos (by omega), if_pos h, cmpI_lt (val_at ha hb j (by omega) (by omega) hd h)]
    · refine Ev_round _ (fun k => ?_) (ih (by omega) (by rw [drop_cons a j (by omega), drop_cons b j (by omega), h, hd]))
      simp only [impl_order.l0]
      rw [if_pos (by omega), if_pos (by omega), if_pos (by omega), if_pos (by omega), if_neg (by omega), if_neg (by omega), wrap_id (by omega) (by omega)]
    · refine Ev_at1 fun k => ?_
      simp only [impl_order.l0]
      rw [if_pos (by omega), if_pos (by omega), if_pos (by omega), if_pos (by omega), if_neg (by omega), if_pos (by omega), cmpI_gt (val_at hb ha j (by omega) (by omega) hd.symm h)]
theorem iorder_ev {a b : List Int} (ha : Canon a) (hb : Canon b) (hs : a.length ≤ 2000000) : Ev (fun k => impl_order.f k a b) (cmpI (val a) (val b)) := by
  unfold impl_order.f
  by_cases h : a.length = b.length
  · refine Ev.congr (fun k => by rw [if_pos (by omega)]) ?_
    rw [wrap_id (by omega) (by omega)]
    exact io_loop a b ha.1 hb.1 h hs a.length (Nat.le_refl _) (by rw [List.drop_length, h, List.drop_length])
  · refine Ev_eq fun k => ?_
    rw [if_neg (by omega)]
    rcases Nat.lt_or_gt_of_ne h with h1 | h1
    · rw [if_pos (by omega), cmpI_lt (Canon_len_lt ha hb h1)]
    · rw [if_neg (by omega), cmpI_gt (Canon_len_lt hb ha h1)]
def cmpB (a b : List Int) : Int := if Big a ∧ Big b then cmpI (val a) (val b) else 0
theorem iCompareBig_ev (a b : List Int) (ha : a.length ≤ 17592186044416) (hb : b.length ≤ 17592186044416) : Ev (fun k => impl_CompareBig.f k a b) (cmpB a b) := by
  unfold impl_CompareBig.f
  refine Ev.bind (iBigOk_ev a ha) ?_
  by_cases h1 : Big a
  · refine Ev.congr (fun k => by rw [if_pos (by simpa using h1)]) (Ev.bind (iBigOk_ev b hb) ?_)
    by_cases h2 : Big b
    · have := iorder_ev (Big_iff.1 h1).1 (Big_iff.1 h2).1 (by have := (Big_iff.1 h1).2; omega)
      have e : cmpB a b = cmpI (val a) (val b) := by unfold cmpB; rw [if_pos ⟨h1, h2⟩]
      rw [e]
      exact Ev.congr (fun k => by rw [if_pos (by simpa using h2)]) (Ev.bind this (Ev_eq fun k => rfl))
    · exact Ev_eq fun k => by rw [if_neg (by simpa using h2)]; simp [cmpB, h2]
  · exact Ev_eq fun k => by rw [if_neg (by simpa using h1)]; simp [cmpB, h1]
theorem B_lt_pow {m n : Nat} (h : B m < B n) : m < n := by
  rcases Nat.lt_or_ge m n with h1 | h1
  · exact h1
  · have := B_le h1; omega
theorem len_of_val {l : List Int} (h : Canon l) {n : Nat} (hv : val l < B n) : l.length ≤ n := by
  by_cases hne : l = []
  · simp [hne]
  · have h1 := (Top_iff h.1 hne).1 h.2
    have := B_lt_pow (Int.lt_of_le_of_lt h1 hv)
    omega
theorem ipow_loop {p : Int} (hp : 1 ≤ p ∧ p ≤ 1000) (e : Nat) (he : e ≤ 2000) (hB : p ^ e < B 120) : ∀ (d i : Nat) (out : List Int), i + d = e → Canon out → val out = p ^ i →
    ∃ r, Canon r ∧ val r = p ^ e ∧ r.length ≤ 120 ∧ Ev (fun k => impl_PowerBig.l0 k p (e : Int) out (i : Int)) (r, true) := by
  intro d
  induction d with
  | zero =>
    intro i out hi hc hv
    have hie : i = e := by omega
    refine ⟨out, hc, by rw [hv, hie], len_of_val hc (by rw [hv, hie]; exact hB), Ev_at1 fun k => ?_⟩
    simp only [impl_PowerBig.l0]; rw [if_neg (by omega)]
  | succ d ih =>
    intro i out hi hc hv
    have hle : ∀ j : Nat, j ≤ e → p ^ j < B 120 := fun j hj => by
      obtain ⟨m, hm⟩ := Nat.le.dest hj
      have h1 : 1 ≤ p ^ m := by
        have : 0 < p ^ m := Int.pow_pos (by omega)
        omega
      have h2 := Int.mul_le_mul_of_nonneg_left h1 (Int.pow_nonneg (show 0 ≤ p by omega) : 0 ≤ p ^ j)
      rw [← Int.pow_add, hm] at h2
      omega
    have hlo := len_of_val hc (by rw [hv]; exact hle i (by omega))
    obtain ⟨r, hr, hrv, hi'⟩ := itimes_ev hc.1 (by omega) (n := p) (by omega)
    have hrv2 : val r = p ^ (i + 1) := by rw [hrv, hv, Int.pow_succ, Int.mul_comm]
    have hlr := len_of_val hr (by rw [hrv2]; exact hle (i + 1) (by omega))
    obtain ⟨s, hs, hsv, hsl, hse⟩ := ih (i + 1) r (by omega) hr hrv2
    refine ⟨s, hs, hsv, hsl, Ev_round (fun k => (impl_times.f k out p).bind fun t => (if (t.length : Int) > 120 then (some ([], false)) else (impl_PowerBig.l0 k p (e : Int) t ((i + 1 : Nat) : Int)))) (fun k => ?_) (Ev.bind hi' (Ev.congr (f := fun k => impl_PowerBig.l0 k p (e : Int) r ((i + 1 : Nat) : Int)) (fun k => by rw [if_neg (by omega)]) hse))⟩
    simp only [impl_PowerBig.l0]; rw [if_pos (by omega), wrap_id (by omega) (by omega)]; rfl
theorem ipow_ev {p : Int} (hp : 1 ≤ p ∧ p ≤ 1000) (e : Nat) (he : e ≤ 2000) (hB : p ^ e < B 120) : ∃ r, Canon r ∧ val r = p ^ e ∧ r.length ≤ 120 ∧ Ev (fun k => impl_PowerBig.f k p (e : Int)) (r, true) := by
  obtain ⟨r, hr, hv, hl, h⟩ := ipow_loop hp e he hB e 0 [1] (by omega) Canon_one (by simp [val])
  refine ⟨r, hr, hv, hl, ?_⟩
  unfold impl_PowerBig.f
  simp only [within_eq, Option.bind_some]
  refine Ev.congr (f := fun k => impl_PowerBig.j0 k p (e : Int) false) (fun k => ?_) (Ev_round _ (fun k => by simp only [impl_PowerBig.j0, Bool.false_eq_true, if_false]; rfl) h)
  rw [if_pos (by simpa using hp), show decide (0 ≤ (e : Int) ∧ (e : Int) ≤ 2000) = true from by simp; omega]
  rfl
theorem sameInts_loop (l m : List Int) (hl : l.length ≤ 17592186044416) (hm : l.length = m.length) : ∀ (d i : Nat), i + d = l.length →
    Ev (fun k => laws_sameInts.l0 k l m (i : Int)) (decide (l.drop i = m.drop i)) := by
  intro d
  induction d with
  | zero =>
    intro i hi
    refine Ev_at1 fun k => ?_
    simp only [laws_sameInts.l0]
    rw [if_neg (by omega), List.drop_eq_nil_of_le (by omega), List.drop_eq_nil_of_le (by omega)]
    simp
  | succ d ih =>
    intro i hi
    rw [drop_cons l i (by omega), drop_cons m i (by omega)]
    by_cases h : rd l (i : Int) = rd m (i : Int)
    · refine Ev_round _ (fun k => ?_) (Ev.congr (fun k => rfl) (show Ev (fun k => laws_sameInts.l0 k l m ((i + 1 : Nat) : Int)) _ from ?_))
      · simp only [laws_sameInts.l0]
        rw [if_pos (by omega), if_pos (by omega), if_pos (by omega), if_pos h, wrap_id (by omega) (by omega)]
        rfl
      · have := ih (i + 1) (by omega)
        simpa [h] using this
    · refine Ev_at1 fun k => ?_
      simp only [laws_sameInts.l0]
      rw [if_pos (by omega), if_pos (by omega), if_pos (by omega), if_neg h]
      simp [h]
theorem sameInts_ev (l m : List Int) (hl : l.length ≤ 17592186044416) : Ev (fun k => laws_sameInts.f k l m) (decide (l = m)) := by
  unfold laws_sameInts.f
  by_cases h : l.length = m.length
  · refine Ev.congr (fun k => by rw [if_pos (by omega)]) ?_
    have := sameInts_loop l m hl h l.length 0 (by simp)
    simpa using this
  · refine Ev_eq fun k => ?_
    rw [if_neg (by omega)]
    have : l ≠ m := fun e => h (by rw [e])
    simp [this]
theorem sameInts_self (l : List Int) (hl : l.length ≤ 17592186044416) : Ev (fun k => laws_sameInts.f k l l) true := by
  have := sameInts_ev l l hl; simpa using this
theorem btoi_eq (b : Bool) : laws_btoi.f b = some (if b then 1 else 0) := by cases b <;> rfl
theorem at_some (l : List Int) (hl : l.length ≤ 1048576) (hw : ∀ x ∈ l, (Lit.int .u8 x).wf = true) (i : Int) (hi : 0 ≤ i ∧ i ≤ 1000) : ∃ v, laws_at.f l i = some v ∧ 0 ≤ v ∧ v ≤ 255 := by
  unfold laws_at.f
  by_cases h : (l.length : Int) = 0
  · exact ⟨0, by rw [if_pos h], by omega, by omega⟩
  · rw [wrap_id (n := i * 5) (by omega) (by omega), wrap_id (n := i * 5 + 1) (by omega) (by omega), Int.tmod_eq_emod_of_nonneg (by omega)]
    have h0 := Int.emod_nonneg (i * 5 + 1) h
    have h1 := Int.emod_lt_of_pos (i * 5 + 1) (show 0 < (l.length : Int) by omega)
    have hb := wf_u8 (hw _ (rd_mem l _ h0 h1))
    refine ⟨rd l ((i * 5 + 1) % (l.length : Int)), ?_, hb⟩
    rw [if_neg h, if_pos h0, if_pos h1, wrap_id (by omega) (by omega)]
theorem big_eq (l : List Int) : laws_big.f l = some (decide ((l.length : Int) > 1048576)) := rfl
theorem small : ∀ n : Fin 60, (4 : Int) ^ n.val < B 120 ∧ (2 : Int) ^ (2 * n.val) < B 120 ∧ (27 : Int) ^ n.val < B 120 ∧ (3 : Int) ^ (3 * n.val) < B 120 ∧ (4 : Int) ^ n.val = 2 ^ (2 * n.val) ∧ (27 : Int) ^ n.val = 3 ^ (3 * n.val) ∧ (0 < n.val → (2 : Int) ^ (2 * n.val) < 3 ^ (3 * n.val)) := by decide +kernel
theorem main : laws_FnPowers.Pure := by
  intro l hl1 hl2 hl3
  refine Ev.rounds ?_
  unfold laws_FnPowers.f
  by_cases hb : (l.length : Int) > 1048576
  · exact Ev_eq fun k => by simp [big_eq, hb]
  obtain ⟨v, hv, v0, v1⟩ := at_some l (by omega) hl3 0 (by omega)
  have hm : Int.tmod v 60 = ((v.toNat % 60 : Nat) : Int) := by rw [Int.tmod_eq_emod_of_nonneg v0]; omega
  generalize hn : v.toNat % 60 = n at hm
  have hn60 : n < 60 := by omega
  obtain ⟨b1, b2, b3, b4, e1, e2, e3⟩ := small ⟨n, hn60⟩
  simp only at b1 b2 b3 b4 e1 e2 e3
  obtain ⟨r1, c1, v1, l1, h1⟩ := ipow_ev (p := 4) (by omega) n (by omega) b1
  obtain ⟨r2, c2, v2, l2, h2⟩ := ipow_ev (p := 2) (by omega) (2 * n) (by omega) b2
  obtain ⟨r3, c3, v3, l3, h3⟩ := ipow_ev (p := 27) (by omega) n (by omega) b3
  obtain ⟨r4, c4, v4, l4, h4⟩ := ipow_ev (p := 3) (by omega) (3 * n) (by omega) b4
  have q1 := Canon_inj c1 c2 (by rw [v1, v2, e1])
  have q2 := Canon_inj c3 c4 (by rw [v3, v4, e2])
  subst q1 q2
  refine Ev.congr (fun k => by rw [big_eq, Option.bind_some, if_neg (by simpa using hb), hv, Option.bind_some, hm, wrap_id (n := 2 * (n : Int)) (by omega) (by omega), wrap_id (n := 3 * (n : Int)) (by omega) (by omega)]) ?_
  refine Ev.bind h1 (Ev.bind h2 (Ev.bind h3 (Ev.bind h4 ?_)))
  refine Ev.congr (fun k => by rw [if_pos rfl, if_pos rfl, if_pos rfl, if_pos rfl]) (Ev.bind (sameInts_self r1 (by omega)) (Ev.congr (fun k => if_pos rfl) (Ev.bind (sameInts_self r3 (by omega)) (Ev.congr (fun k => if_pos rfl) (Ev.bind (iCompareBig_ev r3 r1 (by omega) (by omega)) (Ev_eq fun k => ?_))))))
  have ec : cmpB r3 r1 = cmpI (3 ^ (3 * n)) (2 ^ (2 * n)) := by unfold cmpB; rw [if_pos ⟨Big_iff.2 ⟨c3, l3⟩, Big_iff.2 ⟨c1, l1⟩⟩, v4, v2]
  rw [ec, btoi_eq, Option.bind_some]
  by_cases hz : n = 0
  · subst hz; rfl
  · rw [cmpI_gt (e3 (by omega))]; simp; omega

end Go.Proofs.Ytejbpnmcoobboaa.PureFnPowers
namespace Go.Proofs.Ytejbpnmcoobboaa.Pure
theorem FnPowers : Go.Proofs.Ytejbpnmcoobboaa.PFnPowers.laws_FnPowers.Pure := Go.Proofs.Ytejbpnmcoobboaa.PureFnPowers.main
end Go.Proofs.Ytejbpnmcoobboaa.Pure
