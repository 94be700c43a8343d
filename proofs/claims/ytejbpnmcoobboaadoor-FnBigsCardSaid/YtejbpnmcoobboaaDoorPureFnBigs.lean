/- The law FnBigs returns true for all byte slices. -/
import Derived.Test.YtejbpnmcoobboaaDoorQFnBigsy3
import Derived.Test.YtejbpnmcoobboaaDoorM0
import Derived.Test.YtejbpnmcoobboaaDoorMT
import Derived.Test.YtejbpnmcoobboaaDoorM1
namespace Go.Proofs.YtejbpnmcoobboaaDoor.PureFnBigs
open Go Go.RowKit Go.Proofs.YtejbpnmcoobboaaDoor.PFnBigs Go.Proofs.YtejbpnmcoobboaaDoor.My Go.Proofs.YtejbpnmcoobboaaDoorW.PrintWords Go.Proofs.YtejbpnmcoobboaaDoorW.PrintLast Go.Proofs.YtejbpnmcoobboaaDoorW.PrintMore
set_option linter.unusedVariables false
set_option linter.unusedSimpArgs false
theorem within_eq (a b c : Int) : impl_within.f a b c = some (decide (b ≤ a ∧ a ≤ c)) := by
  unfold impl_within.f
  by_cases h : b ≤ a <;> simp [h]
theorem l01In_eq (a b c : Int) : spec_l01In.f a b c = some (decide (b ≤ a ∧ a ≤ c)) := by
  unfold spec_l01In.f
  by_cases h : b ≤ a <;> simp [h]
/-- A row of groups that is a valid large number. -/
def Big (l : List Int) : Prop := Dig l ∧ l.length ≤ 120 ∧ (l.length = 0 ∨ rd l ((l.length : Int) - 1) ≠ 0)
instance (l : List Int) : Decidable (Big l) := by unfold Big; infer_instance
theorem Big_iff {l : List Int} : Big l ↔ Canon l ∧ l.length ≤ 120 := by
  unfold Big Canon
  constructor
  · rintro ⟨h1, h2, h3⟩
    refine ⟨⟨h1, ?_⟩, h2⟩
    by_cases hz : l.length = 0
    · rw [List.length_eq_zero_iff.1 hz]; exact Top_nil
    · exact Top_last (by omega) (h3.resolve_left hz)
  · rintro ⟨⟨h1, h2⟩, h3⟩
    refine ⟨h1, h3, ?_⟩
    by_cases hz : l.length = 0
    · exact .inl hz
    · have hne : l ≠ [] := List.length_pos_iff.1 (by omega)
      right
      rw [rd_last l hne]
      intro e
      apply h2
      rw [List.getLast?_eq_some_getLast hne, e]
theorem sBigOk_end (l : List Int) (hl : l.length ≤ 17592186044416) (hd : Dig l) (k : Nat) : spec_BigOk.l0 (k + 1) l (l.length : Int) = some (decide (Big l)) := by
  simp only [spec_BigOk.l0]
  rw [if_neg (by omega)]
  by_cases h1 : l.length ≤ 120
  · rw [if_pos (by omega)]
    by_cases h2 : l.length = 0
    · rw [if_pos (by omega)]; simp [Big, hd, h1, h2]
    · rw [if_neg (by omega), wrap_id (by omega) (by omega), if_pos (by omega), if_pos (by omega)]
      simp only [Big, hd, h1, h2, true_and, false_or, Option.some.injEq]
      rw [Bool.eq_iff_iff]; simp
  · rw [if_neg (by omega)]; simp [Big, h1]
theorem sBigOk_loop (l : List Int) (hl : l.length ≤ 17592186044416) : ∀ (d i : Nat), i + d = l.length → Dig (l.take i) →
    Ev (fun k => spec_BigOk.l0 k l (i : Int)) (decide (Big l)) := by
  intro d
  induction d with
  | zero =>
    intro i hi hd
    refine Ev_at1 fun k => ?_
    rw [show i = l.length from by omega]
    exact sBigOk_end l hl (by rw [show i = l.length from by omega, List.take_length] at hd; exact hd) k
  | succ d ih =>
    intro i hi hd
    by_cases h : 0 ≤ rd l (i : Int) ∧ rd l (i : Int) ≤ 9999
    · refine Ev_round _ (fun k => ?_) (ih (i + 1) (by omega) ?_)
      · simp only [spec_BigOk.l0]
        rw [if_pos (by omega), if_pos (by omega), l01In_eq, Option.bind_some, if_pos (by simpa using h), wrap_id (by omega) (by omega)]
        simp
      · rw [take_snoc l i (by omega)]
        intro x hx
        rcases List.mem_append.1 hx with hx | hx
        · exact hd x hx
        · rw [List.mem_singleton.1 hx]; exact h
    · refine Ev_at1 fun k => ?_
      simp only [spec_BigOk.l0]
      rw [if_pos (by omega), if_pos (by omega), l01In_eq, Option.bind_some, if_neg (by simpa using h)]
      have : ¬ Big l := fun hb => h (hb.1 _ (rd_mem l _ (by omega) (by omega)))
      simp [this]
theorem sBigOk_ev (l : List Int) (hl : l.length ≤ 17592186044416) : Ev (fun k => spec_BigOk.f k l) (decide (Big l)) := by
  unfold spec_BigOk.f
  exact sBigOk_loop l hl l.length 0 (by simp) (by simp [Dig])
theorem iBigOk_end (l : List Int) (hl : l.length ≤ 17592186044416) (hd : Dig l) (k : Nat) : impl_BigOk.l0 (k + 1) l l (l.length : Int) (l.length : Int) = some (decide (Big l)) := by
  simp only [impl_BigOk.l0]
  rw [if_neg (by omega)]
  by_cases h1 : l.length ≤ 120
  · rw [if_pos (by omega)]
    by_cases h2 : l.length = 0
    · rw [if_pos (by omega)]; simp [Big, hd, h1, h2]
    · rw [if_neg (by omega), wrap_id (by omega) (by omega), if_pos (by omega), if_pos (by omega)]
      simp only [Big, hd, h1, h2, true_and, false_or, Option.some.injEq]
      rw [Bool.eq_iff_iff]; simp
  · rw [if_neg (by omega)]; simp [Big, h1]
theorem iBigOk_loop (l : List Int) (hl : l.length ≤ 17592186044416) : ∀ (d i : Nat), i + d = l.length → Dig (l.take i) →
    Ev (fun k => impl_BigOk.l0 k l l (l.length : Int) (i : Int)) (decide (Big l)) := by
  intro d
  induction d with
  | zero =>
    intro i hi hd
    refine Ev_at1 fun k => ?_
    rw [show i = l.length from by omega]
    exact iBigOk_end l hl (by rw [show i = l.length from by omega, List.take_length] at hd; exact hd) k
  | succ d ih =>
    intro i hi hd
    by_cases h : 0 ≤ rd l (i : Int) ∧ rd l (i : Int) ≤ 9999
    · refine Ev_round _ (fun k => ?_) (ih (i + 1) (by omega) ?_)
      · simp only [impl_BigOk.l0]
        rw [if_pos (by omega), if_pos (by omega), if_pos (by omega), within_eq, Option.bind_some, if_pos (by simpa using h), wrap_id (by omega) (by omega)]
        simp
      · rw [take_snoc l i (by omega)]
        intro x hx
        rcases List.mem_append.1 hx with hx | hx
        · exact hd x hx
        · rw [List.mem_singleton.1 hx]; exact h
    · refine Ev_at1 fun k => ?_
      simp only [impl_BigOk.l0]
      rw [if_pos (by omega), if_pos (by omega), if_pos (by omega), within_eq, Option.bind_some, if_neg (by simpa using h)]
      have : ¬ Big l := fun hb => h (hb.1 _ (rd_mem l _ (by omega) (by omega)))
      simp [this]
theorem iBigOk_ev (l : List Int) (hl : l.length ≤ 17592186044416) : Ev (fun k => impl_BigOk.f k l) (decide (Big l)) := by
  unfold impl_BigOk.f
  exact iBigOk_loop l hl l.length 0 (by simp) (by simp [Dig])
/-- The groups of a number, the lowest first. -/
def groups (fuel : Nat) (n : Int) : List Int :=
  match fuel with
  | 0 => []
  | f + 1 => if n > 0 then (n % 10000) :: groups f (n / 10000) else []
theorem groups_length (fuel : Nat) (n : Int) : (groups fuel n).length ≤ fuel := by
  induction fuel generalizing n with
  | zero => simp [groups]
  | succ f ih => simp only [groups]; split <;> simp [ih]
theorem groups_done (fuel : Nat) (n : Int) (h : n ≤ 0) : groups fuel n = [] := by
  cases fuel with
  | zero => rfl
  | succ f => simp only [groups]; rw [if_neg (by omega)]
theorem div_step {n : Int} {f : Nat} (h0 : 0 < n) (h : n < (10000 : Int) ^ (f + 1)) : n / 10000 < (10000 : Int) ^ f := by
  rw [Int.pow_succ] at h
  exact Int.ediv_lt_of_lt_mul (by omega) h
theorem sBigOf_loop (fuel : Nat) : ∀ (n : Int) (acc : List Int), n ≤ 9223372036854775807 → n < (10000 : Int) ^ fuel → acc.length + fuel ≤ 1000 →
    Ev (fun k => spec_BigOf.l0 k n acc) (acc ++ groups fuel n) := by
  induction fuel with
  | zero =>
    intro n acc h1 h2 h3
    refine Ev_at1 fun k => ?_
    simp only [spec_BigOf.l0]
    rw [if_neg (by simp at h2; omega), groups]; simp
  | succ f ih =>
    intro n acc h1 h2 h3
    by_cases h : n > 0
    · have hs := div_step h h2
      have he : n.tdiv 10000 = n / 10000 := Int.tdiv_eq_ediv_of_nonneg (by omega)
      have hm : n.tmod 10000 = n % 10000 := Int.tmod_eq_emod_of_nonneg (by omega)
      have q := ih (n / 10000) (acc ++ [n % 10000]) (by omega) hs (by simp; omega)
      have e : acc ++ groups (f + 1) n = (acc ++ [n % 10000]) ++ groups f (n / 10000) := by simp [groups, h]
      rw [e]
      refine Ev_round _ (fun k => ?_) q
      simp only [spec_BigOf.l0]
      rw [if_pos h, if_pos (by omega), he, hm, wrap_id (by omega) (by omega)]
    · refine Ev_at1 fun k => ?_
      simp only [spec_BigOf.l0]
      rw [if_neg h, groups, if_neg h]; simp
theorem iBigOf_loop (fuel : Nat) : ∀ (n : Int) (acc : List Int), n ≤ 9223372036854775807 → n < (10000 : Int) ^ fuel → acc.length + fuel ≤ 1000 →
    Ev (fun k => impl_BigOf.l0 k n acc) (acc ++ groups fuel n) := by
  induction fuel with
  | zero =>
    intro n acc h1 h2 h3
    refine Ev_at1 fun k => ?_
    simp only [impl_BigOf.l0]
    rw [if_neg (by simp at h2; omega), groups]; simp
  | succ f ih =>
    intro n acc h1 h2 h3
    by_cases h : n > 0
    · have hs := div_step h h2
      have he : n.tdiv 10000 = n / 10000 := Int.tdiv_eq_ediv_of_nonneg (by omega)
      have hm : n.tmod 10000 = n % 10000 := Int.tmod_eq_emod_of_nonneg (by omega)
      have q := ih (n / 10000) (acc ++ [n % 10000]) (by omega) hs (by simp; omega)
      have e : acc ++ groups (f + 1) n = (acc ++ [n % 10000]) ++ groups f (n / 10000) := by simp [groups, h]
      rw [e]
      refine Ev_round _ (fun k => ?_) q
      simp only [impl_BigOf.l0]
      rw [if_pos h, if_pos (by omega), he, hm, wrap_id (by omega) (by omega)]
    · refine Ev_at1 fun k => ?_
      simp only [impl_BigOf.l0]
      rw [if_neg h, groups, if_neg h]; simp
theorem iBigOf_ev (n : Int) (h : n ≤ 9223372036854775807) : Ev (fun k => impl_BigOf.f k n) (groups 5 n) := by
  have := iBigOf_loop 5 n [] h (by omega) (by simp)
  simpa [impl_BigOf.f] using this
theorem sBigOf_ev (n : Int) (h : n ≤ 9223372036854775807) : Ev (fun k => spec_BigOf.f k n) (groups 5 n) := by
  have := sBigOf_loop 5 n [] h (by omega) (by simp)
  simpa [spec_BigOf.f] using this
/-- What a product comes to as a checked large number. -/
def fit (r : List Int) : List Int × Bool := if r.length ≤ 120 then (r, true) else ([], false)
theorem sTB_l0 (b : List Int) (hb : Canon b) (hl : b.length ≤ 1000000) {n : Int} (hn : 1 ≤ n ∧ n ≤ 1000) : ∀ (d i : Nat) (out : List Int) (c : Int), i + d = b.length → out.length = i → Dig out → 0 ≤ c ∧ c ≤ n →
    val out + B i * c = n * val (b.take i) → ∃ r, Canon r ∧ val r = n * val b ∧ Ev (fun k => spec_TimesBig.l0 k b n out c (i : Int)) (fit r) := by
  intro d
  induction d with
  | zero =>
    intro i out c hi ho hd hc hv
    have hib : i = b.length := by omega
    rw [hib, List.take_length] at hv
    by_cases h0 : c > 0
    · refine ⟨out ++ [c], ⟨Dig_snoc hd (by omega), Top_last (by simp) ?_⟩, ?_, Ev_at1 fun k => ?_⟩
      · rw [show ((out ++ [c]).length : Int) - 1 = (out.length : Int) from by simp, rd_nat]; simp; omega
      · rw [val_snoc, ho, hib, hv]
      · simp only [spec_TimesBig.l0, Option.bind_some]
        rw [if_neg (by omega), if_pos h0, if_pos (by omega)]
        unfold fit
        by_cases hq : (out ++ [c]).length ≤ 120
        · rw [if_neg (by omega), if_pos hq]
        · rw [if_pos (by omega), if_neg hq]
    · have hc0 : c = 0 := by omega
      rw [hc0, Int.mul_zero, Int.add_zero] at hv
      refine ⟨out, ⟨hd, ?_⟩, hv, Ev_at1 fun k => ?_⟩
      · by_cases hne : out = []
        · rw [hne]; exact Top_nil
        · have hbne : b ≠ [] := by intro q; rw [q] at hib; simp at hib; rw [hib] at ho; exact hne (List.length_eq_zero_iff.1 ho)
          refine (Top_iff hd hne).2 ?_
          have h1 := (Top_iff hb.1 hbne).1 hb.2
          have h2 := (val_bd hb.1).1
          have h3 := Int.mul_le_mul_of_nonneg_right hn.1 h2
          rw [hv, ho, hib]; omega
      · simp only [spec_TimesBig.l0]
        rw [if_neg (by omega), if_neg h0]
        unfold fit
        by_cases hq : out.length ≤ 120
        · rw [if_neg (by omega), if_pos hq]
        · rw [if_pos (by omega), if_neg hq]
  | succ d ih =>
    intro i out c hi ho hd hc hv
    have hg := hb.1 _ (rd_mem b (i : Int) (by omega) (by omega))
    have hcb := carry_bd hg (show 0 ≤ n by omega) hc
    have hm : 0 ≤ rd b (i : Int) * n := Int.mul_nonneg hg.1 (by omega)
    generalize hx : rd b (i : Int) * n + c = x at hcb
    obtain ⟨r, hr, hrv, he⟩ := ih (i + 1) (out ++ [x % 10000]) (x / 10000) (by omega) (by simp [ho]) (Dig_snoc hd (mod_dig x)) hcb.2.2 (by
      rw [val_snoc, ho, B_succ, take_snoc b i (by omega), val_snoc, List.length_take, Nat.min_eq_left (by omega)]
      exact mul_step hv hx.symm)
    refine ⟨r, hr, hrv, Ev_round _ (fun k => ?_) he⟩
    obtain ⟨e1, e2⟩ := dm_nonneg hcb.1
    simp only [spec_TimesBig.l0]
    rw [if_pos (by omega), if_pos (by omega), if_pos (by omega), wrap_id (n := rd b (i : Int) * n) (by omega) (by omega), hx, wrap_id (n := x) (by omega) (by omega), e1, e2, wrap_id (n := x / 10000) (by omega) (by omega), wrap_id (n := (i : Int) + 1) (by omega) (by omega)]
    simp
theorem sTimesBig_no {b : List Int} (hl : b.length ≤ 17592186044416) {n : Int} (h : ¬ (Big b ∧ (0 ≤ n ∧ n ≤ 1000))) : Ev (fun k => spec_TimesBig.f k b n) ([], false) := by
  unfold spec_TimesBig.f
  have hj : Ev (fun k => spec_TimesBig.j0 k b n [] true) ([], false) := Ev_at1 fun k => by simp [spec_TimesBig.j0]
  refine Ev_bindE (fun k => rfl) (Ev.bind (sBigOk_ev b hl) ?_)
  by_cases hb : Big b
  · refine Ev.congr (fun k => by rw [if_pos (by simpa using hb), l01In_eq, Option.bind_some]) ?_
    have hn : ¬ (0 ≤ n ∧ n ≤ 1000) := fun q => h ⟨hb, q⟩
    simpa [hn] using hj
  · exact Ev.congr (fun k => by rw [if_neg (by simpa using hb)]) hj
theorem sTimesBig_yes {b : List Int} (hb : Big b) {n : Int} (hn : 0 ≤ n ∧ n ≤ 1000) : ∃ r, Canon r ∧ val r = n * val b ∧ Ev (fun k => spec_TimesBig.f k b n) (fit r) := by
  obtain ⟨hc, hl⟩ := Big_iff.1 hb
  unfold spec_TimesBig.f
  have key : ∀ {r : List Int}, Ev (fun k => spec_TimesBig.j0 k b n [] false) (fit r) → Ev (fun k => (some (([] : List Int) : List Int)).bind fun y111 => ((spec_BigOk.f k b).bind fun t114 => (if t114 = true then ((spec_l01In.f n 0 1000).bind fun t115 => (spec_TimesBig.j0 k b n y111 (!t115))) else (spec_TimesBig.j0 k b n y111 true)))) (fit r) := by
    intro r hr
    refine Ev_bindE (fun k => rfl) (Ev.bind (sBigOk_ev b (by omega)) (Ev.congr (fun k => by rw [if_pos (by simpa using hb), l01In_eq, Option.bind_some]) ?_))
    rw [show (!decide (0 ≤ n ∧ n ≤ 1000)) = false from by simpa using hn]
    exact hr
  by_cases h0 : n = 0
  · refine ⟨[], ⟨Dig_nil, Top_nil⟩, by simp [val, h0], key (Ev_at1 fun k => ?_)⟩
    simp only [spec_TimesBig.j0, Bool.false_eq_true, if_false]
    rw [if_pos h0]; rfl
  · obtain ⟨r, hr, hv, he⟩ := sTB_l0 b hc (by omega) (n := n) (by omega) b.length 0 [] 0 (by omega) rfl Dig_nil (by omega) (by simp [val])
    refine ⟨r, hr, hv, key (Ev_round _ (fun k => ?_) he)⟩
    simp only [spec_TimesBig.j0, Bool.false_eq_true, if_false]
    rw [if_neg h0]
    rfl
theorem it_l2 : ∀ (m : Nat) (out : List Int), out.length = m → m ≤ 2000000 → Dig out → ∃ r, Canon r ∧ val r = val out ∧ Ev (fun k => impl_times.l2 k out) r := by
  intro m
  induction m with
  | zero =>
    intro out hl _ hd
    obtain rfl : out = [] := List.length_eq_zero_iff.1 hl
    refine ⟨[], ⟨Dig_nil, Top_nil⟩, rfl, Ev_at1 fun k => ?_⟩
    simp [impl_times.l2]
  | succ m ih =>
    intro out hl hm hd
    have hs := take_len_succ hl
    have hw : wrap64 ((out.length : Int) - 1) = (m : Int) := by rw [wrap_id (by omega) (by omega)]; omega
    by_cases h0 : rd out (m : Int) = 0
    · obtain ⟨r, hr, hv, he⟩ := ih (out.take m) (by rw [List.length_take]; omega) (by omega) (Dig_take hd m)
      refine ⟨r, hr, ?_, Ev_round _ (fun k => ?_) he⟩
      · rw [hv]
        conv => rhs; rw [hs, val_snoc, h0]
        omega
      · simp only [impl_times.l2]
        rw [hw, if_pos (by omega), if_pos (by omega), if_pos (by omega), if_pos h0, if_pos (by omega)]
        rfl
    · refine ⟨out, ⟨hd, Top_last (by omega) (by rw [show (out.length : Int) - 1 = (m : Int) from by omega]; exact h0)⟩, rfl, Ev_at1 fun k => ?_⟩
      simp only [impl_times.l2]
      rw [hw, if_pos (by omega), if_pos (by omega), if_pos (by omega), if_neg h0]
theorem it_l1 : ∀ (f : Nat) (c : Int) (out : List Int), 0 ≤ c → c ≤ 10000000000000 → c < (10000 : Int) ^ f → Dig out → out.length + f ≤ 2000000 →
    ∃ r, Canon r ∧ val r = val out + B out.length * c ∧ Ev (fun k => impl_times.l1 k out c) r := by
  intro f
  induction f with
  | zero =>
    intro c out h0 _ h1 hd hl
    have hc : c = 0 := by simp at h1; omega
    obtain ⟨r, hr, hv, he⟩ := it_l2 out.length out rfl (by omega) hd
    refine ⟨r, hr, by rw [hv, hc]; omega, Ev_round _ (fun k => ?_) he⟩
    simp only [impl_times.l1]
    rw [if_neg (by omega)]
  | succ f ih =>
    intro c out h0 h2 h1 hd hl
    by_cases hc : c > 0
    · have hq : c / 10000 < (10000 : Int) ^ f := by rw [Int.pow_succ] at h1; exact Int.ediv_lt_of_lt_mul (by omega) h1
      obtain ⟨r, hr, hv, he⟩ := ih (c / 10000) (out ++ [c % 10000]) (by omega) (by omega) hq (Dig_snoc hd (mod_dig c)) (by simp; omega)
      refine ⟨r, hr, ?_, Ev_round _ (fun k => ?_) he⟩
      · rw [hv, val_snoc, List.length_append, List.length_singleton, B_succ, Int.mul_comm 10000, Int.mul_assoc, Int.add_assoc, ← Int.mul_add, Int.emod_add_mul_ediv]
      · obtain ⟨e1, e2⟩ := dm_nonneg (show 0 ≤ c by omega)
        simp only [impl_times.l1]
        rw [if_pos hc, if_pos (by omega), e1, e2, wrap_id (by omega) (by omega)]
    · have hc : c = 0 := by omega
      obtain ⟨r, hr, hv, he⟩ := it_l2 out.length out rfl (by omega) hd
      refine ⟨r, hr, by rw [hv, hc]; omega, Ev_round _ (fun k => ?_) he⟩
      simp only [impl_times.l1]
      rw [if_neg (by omega)]
theorem it_l0 (b : List Int) (hb : Dig b) (hl : b.length ≤ 1000000) (n : Int) (hn : 0 ≤ n ∧ n ≤ 10000000000000) : ∀ (d i : Nat) (out : List Int) (c : Int), i + d = b.length → out.length = i → Dig out → 0 ≤ c ∧ c ≤ n →
    val out + B i * c = n * val (b.take i) → ∃ r, Canon r ∧ val r = n * val b ∧ Ev (fun k => impl_times.l0 k n out c b (b.length : Int) (i : Int)) r := by
  intro d
  induction d with
  | zero =>
    intro i out c hi ho hd hc hv
    obtain ⟨r, hr, hrv, he⟩ := it_l1 5 c out hc.1 (by omega) (by omega) hd (by omega)
    refine ⟨r, hr, ?_, Ev_round _ (fun k => ?_) he⟩
    · rw [hrv, ho, hv, show i = b.length from by omega, List.take_length]
    · simp only [impl_times.l0]
      rw [if_neg (by omega)]
  | succ d ih =>
    intro i out c hi ho hd hc hv
    have hg := hb _ (rd_mem b (i : Int) (by omega) (by omega))
    have hcb := carry_bd hg hn.1 hc
    generalize hx : rd b (i : Int) * n + c = x at hcb
    obtain ⟨r, hr, hrv, he⟩ := ih (i + 1) (out ++ [x % 10000]) (x / 10000) (by omega) (by simp [ho]) (Dig_snoc hd (mod_dig x)) hcb.2.2 (by
      rw [val_snoc, ho, B_succ, take_snoc b i (by omega), val_snoc, List.length_take, Nat.min_eq_left (by omega)]
      exact mul_step hv hx.symm)
    refine ⟨r, hr, hrv, Ev_round _ (fun k => ?_) he⟩
    obtain ⟨e1, e2⟩ := dm_nonneg hcb.1
    have hm : 0 ≤ rd b (i : Int) * n := Int.mul_nonneg hg.1 hn.1
    simp only [impl_times.l0]
    rw [if_pos (by omega), if_pos (by omega), if_pos (by omega), if_pos (by omega), wrap_id (n := rd b (i : Int) * n) (by omega) (by omega), hx, wrap_id (n := x) (by omega) (by omega), e1, e2, wrap_id (n := x / 10000) (by omega) (by omega), wrap_id (n := (i : Int) + 1) (by omega) (by omega)]
    simp
theorem itimes_ev {b : List Int} (hb : Dig b) (hl : b.length ≤ 1000000) {n : Int} (hn : 0 ≤ n ∧ n ≤ 10000000000000) : ∃ r, Canon r ∧ val r = n * val b ∧ Ev (fun k => impl_times.f k b n) r := by
  have := it_l0 b hb hl n hn b.length 0 [] 0 (by omega) rfl Dig_nil (by omega) (by simp [val])
  simpa [impl_times.f] using this
theorem iTimesBig_no {b : List Int} (hl : b.length ≤ 17592186044416) {n : Int} (h : ¬ (Big b ∧ (0 ≤ n ∧ n ≤ 1000))) : Ev (fun k => impl_TimesBig.f k b n) ([], false) := by
  unfold impl_TimesBig.f
  have hj : Ev (fun k => impl_TimesBig.j0 k b n true) ([], false) := Ev_at1 fun k => by simp [impl_TimesBig.j0]
  refine Ev.bind (iBigOk_ev b hl) ?_
  by_cases hb : Big b
  · refine Ev.congr (fun k => by rw [if_pos (by simpa using hb), within_eq, Option.bind_some]) ?_
    have hn : ¬ (0 ≤ n ∧ n ≤ 1000) := fun q => h ⟨hb, q⟩
    simpa [hn] using hj
  · exact Ev.congr (fun k => by rw [if_neg (by simpa using hb)]) hj
theorem iTimesBig_yes {b : List Int} (hb : Big b) {n : Int} (hn : 0 ≤ n ∧ n ≤ 1000) : ∃ r, Canon r ∧ val r = n * val b ∧ Ev (fun k => impl_TimesBig.f k b n) (fit r) := by
  obtain ⟨hc, hl⟩ := Big_iff.1 hb
  obtain ⟨r, hr, hv, he⟩ := itimes_ev hc.1 (by omega) (n := n) (by omega)
  refine ⟨r, hr, hv, ?_⟩
  unfold impl_TimesBig.f
  refine Ev.bind (iBigOk_ev b (by omega)) (Ev.congr (fun k => by rw [if_pos (by simpa using hb), within_eq, Option.bind_some]) ?_)
  rw [show (!decide (0 ≤ n ∧ n ≤ 1000)) = false from by simpa using hn]
  refine Ev_round _ (fun k => by simp only [impl_TimesBig.j0, Bool.false_eq_true, if_false]; rfl) (Ev.bind he (Ev_eq fun k => ?_))
  unfold fit
  by_cases hq : r.length ≤ 120
  · rw [if_neg (by omega), if_pos hq]
  · rw [if_pos (by omega), if_neg hq]
theorem io_loop (a b : List Int) (ha : Dig a) (hb : Dig b) (hl : a.length = b.length) (hs : a.length ≤ 2000000) : ∀ (j : Nat), j ≤ a.length → a.drop j = b.drop j →
    Ev (fun k => impl_order.l0 k a b ((j : Int) - 1)) (cmpI (val a) (val b)) := by
  intro j
  induction j with
  | zero =>
    intro _ hd
    have e : a = b := by simpa using hd
    refine Ev_at1 fun k => ?_
    simp only [impl_order.l0]
    rw [if_neg (by omega), e, cmpI_self]
  | succ j ih =>
    intro hj hd
    have hw : ((j + 1 : Nat) : Int) - 1 = (j : Int) := by omega
    rw [hw]
    rcases Int.lt_trichotomy (rd a (j : Int)) (rd b (j : Int)) with h | h | h
    · refine Ev_at1 fun k => ?_
      simp only [impl_order.l0]
      rw [if_pos (by omega), if_pos (by omega), if_pos (by omega), if_pos (by omega), if_pos h, cmpI_lt (val_at ha hb j (by omega) (by omega) hd h)]
    · refine Ev_round _ (fun k => ?_) (ih (by omega) (by rw [drop_cons a j (by omega), drop_cons b j (by omega), h, hd]))
      simp only [impl_order.l0]
      rw [if_pos (by omega), if_pos (by omega), if_pos (by omega), if_pos (by omega), if_neg (by omega), if_neg (by omega), wrap_id (by omega) (by omega)]
    · refine Ev_at1 fun k => ?_
      simp only [impl_order.l0]
      rw [if_pos (by omega), if_pos (by omega), if_pos (by omega), if_pos (by omega), if_neg (by omega), if_pos (by omega), cmpI_gt (val_at hb ha j (by omega) (by omega) hd.symm h)]
theorem iorder_ev {a b : List Int} (ha : Canon a) (hb : Canon b) (hs : a.length ≤ 2000000) : Ev (fun k => impl_order.f k a b) (cmpI (val a) (val b)) := by
  unfold impl_order.f
  by_cases h : a.length = b.length
  · refine Ev.congr (fun k => by rw [if_pos (by omega)]) ?_
    rw [wrap_id (by omega) (by omega)]
    exact io_loop a b ha.1 hb.1 h hs a.length (Nat.le_refl _) (by rw [List.drop_length, h, List.drop_length])
  · refine Ev_eq fun k => ?_
    rw [if_neg (by omega)]
    rcases Nat.lt_or_gt_of_ne h with h1 | h1
    · rw [if_pos (by omega), cmpI_lt (Canon_len_lt ha hb h1)]
    · rw [if_neg (by omega), cmpI_gt (Canon_len_lt hb ha h1)]
def cmpB (a b : List Int) : Int := if Big a ∧ Big b then cmpI (val a) (val b) else 0
theorem iCompareBig_ev (a b : List Int) (ha : a.length ≤ 17592186044416) (hb : b.length ≤ 17592186044416) : Ev (fun k => impl_CompareBig.f k a b) (cmpB a b) := by
  unfold impl_CompareBig.f
  refine Ev.bind (iBigOk_ev a ha) ?_
  by_cases h1 : Big a
  · refine Ev.congr (fun k => by rw [if_pos (by simpa using h1)]) (Ev.bind (iBigOk_ev b hb) ?_)
    by_cases h2 : Big b
    · have := iorder_ev (Big_iff.1 h1).1 (Big_iff.1 h2).1 (by have := (Big_iff.1 h1).2; omega)
      have e : cmpB a b = cmpI (val a) (val b) := by unfold cmpB; rw [if_pos ⟨h1, h2⟩]
      rw [e]
      exact Ev.congr (fun k => by rw [if_pos (by simpa using h2)]) (Ev.bind this (Ev_eq fun k => rfl))
    · exact Ev_eq fun k => by rw [if_neg (by simpa using h2)]; simp [cmpB, h2]
  · exact Ev_eq fun k => by rw [if_neg (by simpa using h1)]; simp [cmpB, h1]
theorem sameInts_loop (l m : List Int) (hl : l.length ≤ 17592186044416) (hm : l.length = m.length) : ∀ (d i : Nat), i + d = l.length →
    Ev (fun k => laws_sameInts.l0 k l m (i : Int)) (decide (l.drop i = m.drop i)) := by
  intro d
  induction d with
  | zero =>
    intro i hi
    refine Ev_at1 fun k => ?_
    simp only [laws_sameInts.l0]
    rw [if_neg (by omega), List.drop_eq_nil_of_le (by omega), List.drop_eq_nil_of_le (by omega)]
    simp
  | succ d ih =>
    intro i hi
    rw [drop_cons l i (by omega), drop_cons m i (by omega)]
    by_cases h : rd l (i : Int) = rd m (i : Int)
    · refine Ev_round _ (fun k => ?_) (Ev.congr (fun k => rfl) (show Ev (fun k => laws_sameInts.l0 k l m ((i + 1 : Nat) : Int)) _ from ?_))
      · simp only [laws_sameInts.l0]
        rw [if_pos (by omega), if_pos (by omega), if_pos (by omega), if_pos h, wrap_id (by omega) (by omega)]
        rfl
      · have := ih (i + 1) (by omega)
        simpa [h] using this
    · refine Ev_at1 fun k => ?_
      simp only [laws_sameInts.l0]
      rw [if_pos (by omega), if_pos (by omega), if_pos (by omega), if_neg h]
      simp [h]
theorem sameInts_ev (l m : List Int) (hl : l.length ≤ 17592186044416) : Ev (fun k => laws_sameInts.f k l m) (decide (l = m)) := by
  unfold laws_sameInts.f
  by_cases h : l.length = m.length
  · refine Ev.congr (fun k => by rw [if_pos (by omega)]) ?_
    have := sameInts_loop l m hl h l.length 0 (by simp)
    simpa using this
  · refine Ev_eq fun k => ?_
    rw [if_neg (by omega)]
    have : l ≠ m := fun e => h (by rw [e])
    simp [this]
theorem sameInts_self (l : List Int) (hl : l.length ≤ 17592186044416) : Ev (fun k => laws_sameInts.f k l l) true := by
  have := sameInts_ev l l hl; simpa using this
theorem btoi_eq (b : Bool) : laws_btoi.f b = some (if b then 1 else 0) := by cases b <;> rfl
theorem at_some (l : List Int) (hl : l.length ≤ 1048576) (hw : ∀ x ∈ l, (Lit.int .u8 x).wf = true) (i : Int) (hi : 0 ≤ i ∧ i ≤ 1000) : ∃ v, laws_at.f l i = some v ∧ 0 ≤ v ∧ v ≤ 255 := by
  unfold laws_at.f
  by_cases h : (l.length : Int) = 0
  · exact ⟨0, by rw [if_pos h], by omega, by omega⟩
  · rw [wrap_id (n := i * 5) (by omega) (by omega), wrap_id (n := i * 5 + 1) (by omega) (by omega), Int.tmod_eq_emod_of_nonneg (by omega)]
    have h0 := Int.emod_nonneg (i * 5 + 1) h
    have h1 := Int.emod_lt_of_pos (i * 5 + 1) (show 0 < (l.length : Int) by omega)
    have hb := wf_u8 (hw _ (rd_mem l _ h0 h1))
    refine ⟨rd l ((i * 5 + 1) % (l.length : Int)), ?_, hb⟩
    rw [if_neg h, if_pos h0, if_pos h1, wrap_id (by omega) (by omega)]
theorem big_eq (l : List Int) : laws_big.f l = some (decide ((l.length : Int) > 1048576)) := rfl
theorem and255 (x : Int) : 0 ≤ Go.bits .and .i64 x 255 ∧ Go.bits .and .i64 x 255 ≤ 255 := by
  have h : ((BitVec.ofInt 64 x) &&& (BitVec.ofInt 64 255)).toNat ≤ 255 := by
    rw [BitVec.toNat_and]; exact Nat.le_trans Nat.and_le_right (by decide)
  have e : Go.bits .and .i64 x 255 = IntKind.i64.wrap ((((BitVec.ofInt 64 x) &&& (BitVec.ofInt 64 255)).toNat : Nat) : Int) := rfl
  rw [e]
  generalize ((BitVec.ofInt 64 x) &&& (BitVec.ofInt 64 255)).toNat = n at *
  have : IntKind.i64.wrap (n : Int) = n := by
    have h1 : ((n : Nat) : Int) % (2 ^ 64 : Int) = n := Int.emod_eq_of_lt (by omega) (by omega)
    simp only [IntKind.wrap, IntKind.signed, IntKind.bits, h1]
    rw [if_neg (by simp; omega)]
  omega
def Cur (l : List Int) (i : Int) : Prop := l.length ≤ 1048576 ∧ 0 ≤ i ∧ i ≤ (l.length : Int)
theorem new_loop (l : List Int) (hl : l.length ≤ 1048576) : ∀ (d i : Nat) (h : Int), i + d = l.length → ∃ h', Ev (fun k => spec_l01New.l0 k l h (i : Int)) (l, 0, h') := by
  intro d
  induction d with
  | zero =>
    intro i h hi
    refine ⟨h, Ev_at1 fun k => ?_⟩
    simp only [spec_l01New.l0]
    rw [if_neg (by omega)]
  | succ d ih =>
    intro i h hi
    by_cases hs : (i : Int) < 4000
    · obtain ⟨h', he⟩ := ih (i + 1) (Go.bits .and .i64 (wrap64 ((wrap64 ((wrap64 (h * 131)) + (wrap64 (rd l (i : Int))))) + 7)) 1073741823) (by omega)
      refine ⟨h', Ev_round _ (fun k => ?_) he⟩
      simp only [spec_l01New.l0]
      rw [if_pos (by omega), if_pos hs, if_pos (by omega), wrap_id (n := (i : Int) + 1) (by omega) (by omega)]
      simp
    · refine ⟨h, Ev_at1 fun k => ?_⟩
      simp only [spec_l01New.l0]
      rw [if_pos (by omega), if_neg hs]
theorem new_ev (l : List Int) (hl : l.length ≤ 1048576) : ∃ h, Ev (fun k => spec_l01New.f k l) (l, 0, h) := by
  obtain ⟨h, he⟩ := new_loop l hl l.length 0 (wrap64 (98939 + (l.length : Int))) (by simp)
  exact ⟨h, by simpa [spec_l01New.f] using he⟩
theorem cur0 (l : List Int) (hl : l.length ≤ 1048576) : Cur l 0 := ⟨hl, by omega, by omega⟩
theorem byte_some {l : List Int} {i : Int} (h : Int) (c : Cur l i) : ∃ v i' h', spec_l01Byte.f l i h = some (v, i', h') ∧ Cur l i' ∧ 0 ≤ v ∧ v ≤ 255 := by
  obtain ⟨c0, c1, c2⟩ := c
  unfold spec_l01Byte.f
  by_cases hi : i < (l.length : Int)
  · rw [if_pos hi, if_pos c1, wrap_id (n := i + 1) (by omega) (by omega)]
    exact ⟨_, _, _, rfl, ⟨c0, by omega, by omega⟩, and255 _⟩
  · rw [if_neg hi]
    exact ⟨_, _, _, rfl, ⟨c0, c1, c2⟩, and255 _⟩
theorem tmod_lt_pos {x n : Int} (hx : 0 ≤ x) (hn : 0 < n) : 0 ≤ x.tmod n ∧ x.tmod n < n := by
  rw [Int.tmod_eq_emod_of_nonneg hx]
  exact ⟨Int.emod_nonneg _ (by omega), Int.emod_lt_of_pos _ hn⟩
theorem below_some {l : List Int} {i : Int} (h : Int) (n : Int) (c : Cur l i) : ∃ v i' h', spec_l01Below.f l i h n = some (v, i', h') ∧ Cur l i' ∧ 0 ≤ v ∧ (0 < n → v < n) ∧ (n ≤ 0 → v = 0) := by
  unfold spec_l01Below.f
  by_cases h0 : n ≤ 0
  · rw [if_pos h0]; exact ⟨_, _, _, rfl, c, by omega, by omega, by omega⟩
  · rw [if_neg h0]
    by_cases h1 : n ≤ 256
    · obtain ⟨v, i', h', e, c', v0, v1⟩ := byte_some h c
      rw [if_pos h1, e, Option.bind_some, if_neg (by omega)]
      have := tmod_lt_pos v0 (show 0 < n by omega)
      exact ⟨_, _, _, rfl, c', this.1, fun _ => this.2, by omega⟩
    · rw [if_neg h1]
      obtain ⟨x, i1, h1, e1, c1, x0, x1⟩ := byte_some h c
      obtain ⟨y, i2, h2, e2, c2, y0, y1⟩ := byte_some h1 c1
      obtain ⟨z, i3, h3, e3, c3, z0, z1⟩ := byte_some h2 c2
      obtain ⟨w, i4, h4, e4, c4, w0, w1⟩ := byte_some h3 c3
      simp only [e1, e2, e3, e4, Option.bind_some]
      rw [if_neg (by omega), wrap_id (n := x * 16777216) (by omega) (by omega), wrap_id (n := y * 65536) (by omega) (by omega), wrap_id (n := z * 256) (by omega) (by omega), wrap_id (n := x * 16777216 + y * 65536) (by omega) (by omega), wrap_id (n := x * 16777216 + y * 65536 + z * 256) (by omega) (by omega), wrap_id (by omega) (by omega)]
      have := tmod_lt_pos (x := x * 16777216 + y * 65536 + z * 256 + w) (by omega) (show 0 < n by omega)
      exact ⟨_, _, _, rfl, c4, this.1, fun _ => this.2, by omega⟩
theorem pickInt_some {l : List Int} {i : Int} (h : Int) (m : List Int) (hm : m ≠ []) (c : Cur l i) : ∃ v i' h', spec_l01PickInt.f l i h m = some (v, i', h') ∧ Cur l i' ∧ v ∈ m := by
  have hp : 0 < m.length := List.length_pos_iff.2 hm
  obtain ⟨v, i', h', e, c', v0, v1, _⟩ := below_some h (m.length : Int) c
  have v1 := v1 (by omega)
  unfold spec_l01PickInt.f
  rw [e, Option.bind_some, if_pos v0, if_pos v1]
  exact ⟨_, _, _, rfl, c', rd_mem m v v0 v1⟩
/-! The text of a large number: the top group's numeral, then four figures a group. -/
theorem itoa_len_le (n : Int) (h1 : -9223372036854775808 ≤ n) (h2 : n ≤ 9223372036854775807) : (Lib.itoa n).length ≤ 21 := by
  unfold Lib.itoa
  split
  · have := decDigits_len (u := n.natAbs) (by omega); simp; omega
  · have := decDigits_len (u := n.toNat) (by omega); omega
theorem wf_of_bd {n : Int} (h1 : -9223372036854775808 ≤ n) (h2 : n ≤ 9223372036854775807) : (Lit.int .i64 n).wf = true := by
  simp [Lit.wf, IntKind.min, IntKind.max, IntKind.signed, IntKind.bits]; omega
theorem txt_len (l : List Int) (hl : l.length ≤ 17592186044416) (h : ∀ i : Int, -9223372036854775808 ≤ rd l i ∧ rd l i ≤ 9223372036854775807) : ∀ m, (impl_BigText.txt l m).length ≤ 21 * (m + 1)
  | 0 => by rw [impl_BigText.txt]; exact itoa_len_le _ (h _).1 (h _).2
  | m + 1 => by
    rw [impl_BigText.txt, List.length_append, List.length_drop]
    have h1 := txt_len l hl h m
    have h2 := itoa_len_le (wrap64 (10000 + rd l (((l.length : Int) - 2) - m))) (wrap_bd _).1 (wrap_bd _).2
    omega
theorem rd_bd {l : List Int} (hd : Dig l) (i : Int) : -9223372036854775808 ≤ rd l i ∧ rd l i ≤ 9223372036854775807 := by
  by_cases h : i.toNat < l.length
  · have hm : rd l i ∈ l := by
      have e : rd l i = rd l (i.toNat : Int) := by unfold rd; rw [Int.toNat_natCast]
      rw [e]; exact rd_mem l _ (by omega) (by omega)
    have := hd _ hm; omega
  · have e : rd l i = 0 := by unfold rd; rw [List.getD_eq_getElem?_getD, List.getElem?_eq_none (by omega)]; rfl
    rw [e]; omega
/-- What both functions write for a valid large number. -/
def bigTx (l : List Int) : ByteArray := if Big l then (if l.length = 0 then ⟨#[48]⟩ else tx (impl_BigText.txt l (l.length - 1))) else ⟨#[]⟩
theorem ibig_ev (l : List Int) (hl : l.length ≤ 17592186044416) : Ev (fun k => impl_BigText.f k l) (bigTx l) := by
  unfold impl_BigText.f
  refine Ev.bind (iBigOk_ev l hl) (Ev_eq fun k => ?_)
  by_cases hb : Big l
  · rw [if_pos (by simpa using hb)]
    by_cases hz : l.length = 0
    · rw [if_pos (by omega)]; simp [bigTx, hb, hz]
    · have ht := rd_bd hb.1 (wrap64 ((l.length : Int) - 1))
      have hx := txt_len l hl (rd_bd hb.1) (l.length - 1)
      have h120 := hb.2.1
      rw [if_neg (by omega), if_pos ⟨by simp only [impl_BigText.top]; exact wf_of_bd ht.1 ht.2, by omega, by omega⟩]
      simp only [bigTx, if_pos hb, if_neg hz]; rfl
  · rw [if_neg (by simpa using hb)]; simp [bigTx, hb]
theorem ifmt_eq (k : Nat) (n : Int) (h : (Lit.int .i64 n).wf = true) : impl_FormatInt.f k n = some (tx (Lib.itoa n)) := by
  rw [impl_FormatInt.f, if_pos h]; rfl
theorem groups_spec : ∀ (f : Nat) (n : Int), 0 ≤ n → n < (10000 : Int) ^ f → Canon (groups f n) ∧ val (groups f n) = n
  | 0, n, h0, h1 => by
    have : n = 0 := by simp at h1; omega
    subst this; exact ⟨⟨Dig_nil, Top_nil⟩, rfl⟩
  | f + 1, n, h0, h1 => by
    rw [groups]
    by_cases hn : n > 0
    · rw [if_pos hn]
      obtain ⟨⟨hd, ht⟩, hv⟩ := groups_spec f (n / 10000) (by omega) (div_step hn h1)
      refine ⟨⟨Dig_cons.2 ⟨mod_dig n, hd⟩, ?_⟩, by rw [val, hv]; omega⟩
      cases hg : groups f (n / 10000) with
      | nil =>
        rw [hg] at hv
        have hv : (0 : Int) = n / 10000 := hv
        simp only [Top, List.getLast?_singleton, ne_eq, Option.some.injEq]; omega
      | cons y t =>
        rw [hg] at ht
        simpa [Top] using ht
    · rw [if_neg hn]
      have : n = 0 := by omega
      subst this; exact ⟨⟨Dig_nil, Top_nil⟩, rfl⟩
theorem big_of {l : List Int} (h : Canon l) {n : Nat} (hn : n ≤ 120) (hv : val l < 2 ^ n) : Big l := Big_iff.2 ⟨h, Nat.le_trans (Canon_len h hv) hn⟩
theorem fit_of {l : List Int} (h : Canon l) {n : Nat} (hn : n ≤ 120) (hv : val l < 2 ^ n) : fit l = (l, true) := if_pos (Nat.le_trans (Canon_len h hv) hn)
theorem l02_loop {s : List Int} (m : Nat) (hm : m ≤ 4) : ∀ (d i : Nat) (b : List Int) (p h : Int), i + d = m → Cur s p → Canon b → val b ≤ 1000000 * 1000 ^ i →
    ∃ b' p' h', Ev (fun k => spec_l02Big.l0 k b (m : Int) (i : Int) s p h) (b', p', h') ∧ Cur s p' ∧ Canon b' ∧ val b' ≤ 1000000000000000000
  | 0, i, b, p, h, hi, c, hb, hv => by
    refine ⟨b, p, h, Ev_at1 fun k => ?_, c, hb, ?_⟩
    · rw [spec_l02Big.l0, if_neg (by omega)]
    · have : (1000 : Int) ^ i ≤ 1000 ^ 4 := by
        have : i = 0 ∨ i = 1 ∨ i = 2 ∨ i = 3 ∨ i = 4 := by omega
        rcases this with rfl | rfl | rfl | rfl | rfl <;> decide
      omega
  | d + 1, i, b, p, h, hi, c, hb, hv => by
    obtain ⟨v, p1, h1, e1, c1, v0, v1, _⟩ := below_some (l := s) h 999 c
    have v1 := v1 (by omega)
    have hp : (1000 : Int) ^ i ≤ 1000 ^ 3 := by
      have : i = 0 ∨ i = 1 ∨ i = 2 ∨ i = 3 := by omega
      rcases this with rfl | rfl | rfl | rfl <;> decide
    have hp0 : (0 : Int) < 1000 ^ i := Int.pow_pos (by omega)
    obtain ⟨vb0, _⟩ := val_bd hb.1
    have hbig : Big b := big_of hb (n := 60) (by omega) (by omega)
    obtain ⟨r, hr, hrv, he⟩ := sTimesBig_yes hbig (n := 1 + v) (by omega)
    have hle : val r ≤ 1000 * val b := by rw [hrv]; exact Int.mul_le_mul_of_nonneg_right (by omega) vb0
    have hrb : val r < 2 ^ 70 := by omega
    rw [fit_of hr (n := 70) (by omega) hrb] at he
    obtain ⟨b', p', h', E, C, D, V⟩ := l02_loop m hm d (i + 1) r p1 h1 (by omega) c1 hr (by rw [Int.pow_succ]; omega)
    refine ⟨b', p', h', Ev_round (fun k => (spec_TimesBig.f k b (1 + v)).bind fun bt182 => (spec_l02Big.l0 k bt182.1 (m : Int) ((i + 1 : Nat) : Int) s p1 h1)) (fun k => ?_) (Ev.bind he E), C, D, V⟩
    rw [spec_l02Big.l0, if_pos (by omega), e1, Option.bind_some, wrap_id (n := 1 + v) (by omega) (by omega), wrap_id (n := (i : Int) + 1) (by omega) (by omega)]
    rfl
theorem l02_ev {s : List Int} {p : Int} (h : Int) (c : Cur s p) : ∃ b p' h', Ev (fun k => spec_l02Big.f k s p h) (b, p', h') ∧ Cur s p' ∧ Canon b ∧ val b ≤ 1000000000000000000 := by
  obtain ⟨x, p1, h1, e1, c1, x0, x1, _⟩ := below_some (l := s) h 1000000 c
  have x1 := x1 (by omega)
  obtain ⟨y, p2, h2, e2, c2, hy⟩ := pickInt_some h1 [0, 1, 9999, 10000, x] (by simp) c1
  obtain ⟨m, p3, h3, e3, c3, m0, m1, _⟩ := below_some (l := s) h2 5 c2
  have m1 := m1 (by omega)
  have hy : 0 ≤ y ∧ y ≤ 1000000 := by simp at hy; omega
  obtain ⟨hc, hv⟩ := groups_spec 5 y hy.1 (by omega)
  obtain ⟨b, p4, h4, E, C, D, V⟩ := l02_loop (s := s) m.toNat (by omega) m.toNat 0 (groups 5 y) p3 h3 (by omega) c3 hc (by rw [hv]; simp; omega)
  rw [show ((m.toNat : Nat) : Int) = m by omega] at E
  refine ⟨b, p4, h4, ?_, C, D, V⟩
  unfold spec_l02Big.f
  refine Ev.congr (fun k => by rw [e1, Option.bind_some, e2, Option.bind_some]) (Ev.bind (sBigOf_ev y (by omega)) (Ev.congr (fun k => by rw [e3, Option.bind_some]; rfl) E))
theorem draw_ev (l : List Int) (hl : l.length ≤ 1048576) : ∃ a b, Ev (fun k => spec_DrawBigs.f k l) (a, b) ∧ (Canon a ∧ val a ≤ 1000000000000000000) ∧ Canon b ∧ val b ≤ 1000000000000000000 := by
  obtain ⟨h, he⟩ := new_ev l hl
  obtain ⟨a, p1, h1, E1, C1, D1, V1⟩ := l02_ev h (cur0 l hl)
  obtain ⟨b, p2, h2, E2, C2, D2, V2⟩ := l02_ev h1 C1
  exact ⟨a, b, Ev.bind he (Ev.bind E1 (Ev.bind E2 (Ev_eq fun k => rfl))), ⟨D1, V1⟩, D2, V2⟩
theorem small_text (n : Int) (h0 : 0 ≤ n) (h1 : n ≤ 9999) : bigTx (groups 5 n) = tx (Lib.itoa n) := by
  by_cases hz : n = 0
  · subst hz
    rw [groups_done _ _ (by omega), bigTx, if_pos (by decide), if_pos (by rfl), Lib.itoa, if_neg (by omega), Lib.decDigits]; rfl
  · have e : groups 5 n = [n] := by
      rw [groups, if_pos (by omega), groups_done _ _ (by omega)]; congr 1; omega
    have hb : Big [n] := ⟨by simp [Dig]; omega, by simp, .inr (by simpa [rd] using hz)⟩
    rw [e, bigTx, if_pos hb, if_neg (by simp)]
    simp only [List.length_singleton, Nat.sub_self, impl_BigText.txt, impl_BigText.top]
    rw [wrap_id (by simp) (by simp)]; rfl
theorem cmp_neg (x y : Int) : cmpI x y = wrap64 (-(cmpI y x)) := by
  rcases Int.lt_trichotomy x y with h | h | h
  · rw [cmpI_lt h, cmpI_gt h]; rw [wrap_id (by omega) (by omega)] <;> (try omega)
  · subst h; rw [cmpI_self]; rw [wrap_id (by omega) (by omega)] <;> (try omega)
  · rw [cmpI_lt h, cmpI_gt h]; rw [wrap_id (by omega) (by omega)] <;> (try omega)
theorem cmp_btoi (x y : Int) : cmpI x y = wrap64 ((if decide (x > y) = true then 1 else 0) - (if decide (x < y) = true then 1 else 0)) := by
  rcases Int.lt_trichotomy x y with h | h | h
  · rw [cmpI_lt h, if_neg (by simp; omega), if_pos (by simpa using h), wrap_id (by omega) (by omega)]; omega
  · subst h; simp only [cmpI_self, gt_iff_lt, Int.lt_irrefl, decide_false, Bool.false_eq_true, if_false]; rw [wrap_id (by omega) (by omega)] <;> (try omega)
  · rw [cmpI_gt h, if_pos (by simpa using h), if_neg (by simp; omega), wrap_id (by omega) (by omega)]; omega
theorem cmp_zero {a b : List Int} (ha : Canon a) (hb : Canon b) : ((cmpI (val a) (val b) == 0) == decide (a = b)) = true := by
  by_cases h : a = b
  · subst h; rw [cmpI_self]; simp
  · have hv : val a ≠ val b := fun e => h (Canon_inj ha hb e)
    unfold cmpI
    by_cases h1 : val a < val b
    · rw [if_pos h1]; simp [h]
    · rw [if_neg h1, if_pos (by omega)]; simp [h]
theorem main : laws_FnBigs.Pure := by
  intro l hl1 hl2 hl3
  refine Ev.rounds ?_
  unfold laws_FnBigs.f
  by_cases hb : (l.length : Int) > 1048576
  · exact Ev_eq fun k => by simp [big_eq, hb]
  have hl : l.length ≤ 1048576 := by omega
  obtain ⟨a, b, hd, ⟨ca, va⟩, cb, vb⟩ := draw_ev l hl
  obtain ⟨va0, _⟩ := val_bd ca.1
  obtain ⟨vb0, _⟩ := val_bd cb.1
  have ba : Big a := big_of ca (n := 60) (by omega) (by omega)
  have bb : Big b := big_of cb (n := 60) (by omega) (by omega)
  obtain ⟨x, cx, vx, ex⟩ := iTimesBig_yes ba (n := 7) (by omega)
  rw [fit_of cx (n := 70) (by omega) (by omega)] at ex
  have bx : Big x := big_of cx (n := 70) (by omega) (by omega)
  obtain ⟨y, cy, vy, ey⟩ := iTimesBig_yes bx (n := 11) (by omega)
  rw [fit_of cy (n := 80) (by omega) (by omega)] at ey
  have byy : Big y := big_of cy (n := 80) (by omega) (by omega)
  obtain ⟨z, cz, vz, ez⟩ := iTimesBig_yes ba (n := 77) (by omega)
  rw [fit_of cz (n := 80) (by omega) (by omega)] at ez
  have hyz : y = z := Canon_inj cy cz (by rw [vy, vx, vz]; omega)
  subst hyz
  obtain ⟨d0, hd0, d00, d01⟩ := at_some l hl hl3 0 (by omega)
  obtain ⟨d1, hd1, d10, d11⟩ := at_some l hl hl3 1 (by omega)
  obtain ⟨d2, hd2, d20, d21⟩ := at_some l hl hl3 2 (by omega)
  obtain ⟨d3, hd3, d30, d31⟩ := at_some l hl hl3 3 (by omega)
  have wn : wrap64 (wrap64 (d0 * 31) + d1) = d0 * 31 + d1 := by rw [wrap_id (n := d0 * 31) (by omega) (by omega), wrap_id (by omega) (by omega)]
  have wm : wrap64 (wrap64 (d2 * 31) + d3) = d2 * 31 + d3 := by rw [wrap_id (n := d2 * 31) (by omega) (by omega), wrap_id (by omega) (by omega)]
  generalize hn : d0 * 31 + d1 = n at wn
  generalize hm : d2 * 31 + d3 = m at wm
  obtain ⟨cn, vn⟩ := groups_spec 5 n (by omega) (by omega)
  obtain ⟨cm, vm⟩ := groups_spec 5 m (by omega) (by omega)
  have bn : Big (groups 5 n) := big_of cn (n := 60) (by omega) (by omega)
  have bm : Big (groups 5 m) := big_of cm (n := 60) (by omega) (by omega)
  have lb : ∀ {q : List Int}, Big q → q.length ≤ 17592186044416 := fun h => by have := h.2.1; omega
  have cmp : ∀ {p q : List Int}, Big p → Big q → Ev (fun k => impl_CompareBig.f k p q) (cmpI (val p) (val q)) := fun {p q} hp hq => by
    have := iCompareBig_ev p q (lb hp) (lb hq)
    rwa [cmpB, if_pos ⟨hp, hq⟩] at this
  have c0 := cmp bn bm
  rw [vn, vm] at c0
  have hi : Ev (fun k => impl_BigText.f k (groups 5 n)) (tx (Lib.itoa n)) := by
    have := ibig_ev (groups 5 n) (lb bn)
    rwa [small_text n (by omega) (by omega)] at this
  have hok : Ev (fun k => impl_BigOk.f k y) true := by
    have := iBigOk_ev y (lb byy)
    rwa [decide_eq_true byy] at this
  refine Ev.congr (fun k => by rw [big_eq, Option.bind_some, if_neg (by simpa using hb)]) (Ev.bind hd (Ev.bind ex (Ev.bind ey (Ev.bind ez ?_))))
  refine Ev.congr (fun k => by rw [hd0, Option.bind_some, hd1, Option.bind_some, hd2, Option.bind_some, hd3, Option.bind_some, wn, wm]) ?_
  refine Ev.bind (iBigOf_ev n (by omega)) (Ev.bind (iBigOf_ev m (by omega)) (Ev.bind c0 ?_))
  refine Ev.congr (fun k => by rw [if_pos rfl, if_pos rfl, if_pos rfl]) (Ev.bind (sameInts_self y (lb byy)) (Ev.congr (fun k => if_pos rfl) ?_))
  refine Ev.bind (cmp ba bb) (Ev.bind (cmp bb ba) (Ev.congr (fun k => if_pos (cmp_neg _ _)) ?_))
  refine Ev.bind (cmp ba bb) (Ev.bind (sameInts_ev a b (lb ba)) (Ev.congr (fun k => if_pos (cmp_zero ca cb)) ?_))
  refine Ev.congr (fun k => by rw [btoi_eq, Option.bind_some, btoi_eq, Option.bind_some, if_pos (cmp_btoi n m)]) ?_
  refine Ev.bind (iBigOf_ev n (by omega)) (Ev.bind hi (Ev.bind (Ev_eq fun k => ifmt_eq k n (wf_of_bd (by omega) (by omega))) (Ev.congr (fun k => if_pos rfl) (Ev.bind hok (Ev_eq fun k => rfl)))))

end Go.Proofs.YtejbpnmcoobboaaDoor.PureFnBigs
