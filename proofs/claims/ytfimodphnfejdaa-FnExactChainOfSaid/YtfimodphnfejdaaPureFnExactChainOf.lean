/- The law FnExactChainOf returns true for all pairs of whole numbers of 64 bits. -/
import Derived.Test.YtfimodphnfejdaaQFnExactChainOfy7
import Derived.Test.YtfimodphnfejdaaM0
import Derived.Test.YtfimodphnfejdaaM1
import Derived.Test.YtfimodphnfejdaaM2
import Derived.Test.YtfimodphnfejdaaM3
namespace Go.Proofs.Ytfimodphnfejdaa.PureFnExactChainOf
open Go Go.RowKit Go.Proofs.Ytfimodphnfejdaa.PFnExactChainOf Go.Proofs.Ytfimodphnfejdaa.My Go.Proofs.YtfimodphnfejdaaW.PrintWords Go.Proofs.YtfimodphnfejdaaW.PrintLast Go.Proofs.YtfimodphnfejdaaW.PrintMore
set_option linter.unusedVariables false
set_option linter.unusedSimpArgs false
theorem within_eq (a b c : Int) : impl_within.f a b c = some (decide (b ≤ a ∧ a ≤ c)) := by
  unfold impl_within.f
  by_cases h : b ≤ a <;> simp [h]
theorem l01In_eq (a b c : Int) : spec_l01In.f a b c = some (decide (b ≤ a ∧ a ≤ c)) := by
  unfold spec_l01In.f
  by_cases h : b ≤ a <;> simp [h]
theorem iok_eq (a b c r : Int) : impl_IntervalOk.f a b c r = some (decide (Ok a b c r)) := by
  simp only [impl_IntervalOk.f, within_eq, Option.bind_some, Ok]
  by_cases h1 : 1 ≤ r ∧ r ≤ 12 <;> by_cases h2 : -400 ≤ a ∧ a ≤ 400 <;> by_cases h3 : -400 ≤ b ∧ b ≤ 400 <;> simp [h1, h2, h3]
theorem sok_eq (a b c r : Int) : spec_IntervalOk.f a b c r = some (decide (Ok a b c r)) := by
  simp only [spec_IntervalOk.f, l01In_eq, Option.bind_some, Ok]
  by_cases h1 : 1 ≤ r ∧ r ≤ 12 <;> by_cases h2 : -400 ≤ a ∧ a ≤ 400 <;> by_cases h3 : -400 ≤ b ∧ b ≤ 400 <;> simp [h1, h2, h3]
theorem sgcd_loop (n : Nat) : ∀ (a b : Int), b.natAbs < n → 0 ≤ a → 0 ≤ b → Ev (fun k => spec_l03Gcd.l0 k a b) ((Int.gcd a b : Nat) : Int) := by
  induction n with
  | zero => intro a b h; omega
  | succ n ih =>
    intro a b h ha hb
    by_cases h0 : b = 0
    · refine Ev_at1 fun k => ?_
      simp only [spec_l03Gcd.l0]
      rw [if_neg (by omega), h0, Int.gcd_zero_right]
      congr 1; omega
    · have h1 := tmod_lt a b h0
      rw [← gcd_step a b]
      refine Ev_round _ (fun k => ?_) (ih b (a.tmod b) (by omega) hb (Int.tmod_nonneg _ ha))
      simp only [spec_l03Gcd.l0]
      rw [if_pos (by omega), if_neg h0]
theorem mx_abs (a : Int) (ha : a.natAbs ≤ 1000000000) : mx a (wrap64 (-a)) = ((a.natAbs : Nat) : Int) := by
  rw [wrap_id (by omega) (by omega)]; unfold mx; split <;> omega
theorem sgcd_ev (a b : Int) (ha : a.natAbs ≤ 1000000000) (hb : b.natAbs ≤ 1000000000) : Ev (fun k => spec_l03Gcd.f k a b) ((Int.gcd a b : Nat) : Int) := by
  unfold spec_l03Gcd.f
  rw [mx_abs a ha, mx_abs b hb]
  have := sgcd_loop (b.natAbs + 1) ((a.natAbs : Nat) : Int) ((b.natAbs : Nat) : Int) (by omega) (by omega) (by omega)
  have e : Int.gcd ((a.natAbs : Nat) : Int) ((b.natAbs : Nat) : Int) = Int.gcd a b := by simp [Int.gcd]
  rw [e] at this
  exact this
theorem idiv_loop (n : Nat) : ∀ (a b : Int), b.natAbs < n → a.natAbs ≤ 1000000000 → b.natAbs ≤ 1000000000 → Ev (fun k => impl_divisor.l0 k a b) ((Int.gcd a b : Nat) : Int) := by
  induction n with
  | zero => intro a b h; omega
  | succ n ih =>
    intro a b h ha hb
    by_cases h0 : b = 0
    · refine Ev_at1 fun k => ?_
      simp only [impl_divisor.l0]
      rw [if_pos h0, h0, Int.gcd_zero_right]
      by_cases hs : a < 0
      · rw [if_pos hs, wrap_id (by omega) (by omega)]; congr 1; omega
      · rw [if_neg hs]; congr 1; omega
    · have h1 := tmod_lt a b h0
      rw [← gcd_step a b]
      refine Ev_round _ (fun k => ?_) (ih b (a.tmod b) (by omega) hb (by omega))
      simp only [impl_divisor.l0]
      rw [if_neg h0]
theorem idiv_ev (a b : Int) (ha : a.natAbs ≤ 1000000000) (hb : b.natAbs ≤ 1000000000) : Ev (fun k => impl_divisor.f k a b) ((Int.gcd a b : Nat) : Int) := by
  unfold impl_divisor.f
  exact idiv_loop (b.natAbs + 1) a b (by omega) ha hb
theorem isimp_ev {a b c r : Int} (hr : 0 < r) (ha : a.natAbs ≤ 1000000000) (hb : b.natAbs ≤ 1000000000) (hc : c.natAbs ≤ 1000000000) (hr' : r.natAbs ≤ 1000000000) : Ev (fun k => impl_simplest.f k a b c r) (simp4 a b c r) := by
  have hp := g4_pos a b c hr
  have dv : ∀ x : Int, x.natAbs ≤ 1000000000 → ((g4 a b c r : Nat) : Int) ∣ x → wrap64 (x.tdiv ((g4 a b c r : Nat) : Int)) = x / ((g4 a b c r : Nat) : Int) := by
    intro x hx hd
    rw [wrap_id (tdiv_bd x _ hx).1 (tdiv_bd x _ hx).2, tdiv_dvd hd]
  unfold impl_simplest.f
  refine Ev.bind (idiv_ev a b ha hb) (Ev.bind (idiv_ev c r hc hr') (Ev.bind (idiv_ev _ _ (gcd_bd ha hb) (gcd_bd hc hr')) (Ev_eq fun k => ?_)))
  have e : Int.gcd ((Int.gcd a b : Nat) : Int) ((Int.gcd c r : Nat) : Int) = g4 a b c r := by simp [g4, Int.gcd]
  rw [e, if_neg (by omega), dv a ha (g4_dvd1 ..), dv b hb (g4_dvd2 ..), dv c hc (g4_dvd3 ..), dv r hr' (g4_dvd4 ..)]
  rfl
theorem ssimp_ev {a b c r : Int} (hr : 0 < r) (ha : a.natAbs ≤ 1000000000) (hb : b.natAbs ≤ 1000000000) (hc : c.natAbs ≤ 1000000000) (hr' : r.natAbs ≤ 1000000000) : Ev (fun k => spec_l03Simple.f k a b c r) (simp4 a b c r) := by
  have hp := g4_pos a b c hr
  have dv : ∀ x : Int, x.natAbs ≤ 1000000000 → ((g4 a b c r : Nat) : Int) ∣ x → wrap64 (x.tdiv ((g4 a b c r : Nat) : Int)) = x / ((g4 a b c r : Nat) : Int) := by
    intro x hx hd
    rw [wrap_id (tdiv_bd x _ hx).1 (tdiv_bd x _ hx).2, tdiv_dvd hd]
  unfold spec_l03Simple.f
  refine Ev.bind (sgcd_ev a b ha hb) (Ev.bind (sgcd_ev c r hc hr') (Ev.bind (sgcd_ev _ _ (gcd_bd ha hb) (gcd_bd hc hr')) (Ev_eq fun k => ?_)))
  have e : Int.gcd ((Int.gcd a b : Nat) : Int) ((Int.gcd c r : Nat) : Int) = g4 a b c r := by simp [g4, Int.gcd]
  rw [e, if_neg (by omega), dv a ha (g4_dvd1 ..), dv b hb (g4_dvd2 ..), dv c hc (g4_dvd3 ..), dv r hr' (g4_dvd4 ..)]
  rfl
theorem iok_ev2 {a b c r : Int} (hr : 0 < r) (ha : a.natAbs ≤ 1000000000) (hb : b.natAbs ≤ 1000000000) (hc : c.natAbs ≤ 1000000000) (hr' : r.natAbs ≤ 1000000000) : Ev (fun k => impl_okInterval.f k a b c r) (chk (simp4 a b c r)) := by
  unfold impl_okInterval.f
  refine Ev.bind (isimp_ev hr ha hb hc hr') (Ev_eq fun k => ?_)
  simp only [iok_eq, Option.bind_some, chk]
  by_cases h : Ok (simp4 a b c r).1 (simp4 a b c r).2.1 (simp4 a b c r).2.2.1 (simp4 a b c r).2.2.2 <;> simp [h]
theorem sok_ev2 {a b c r : Int} (hr : 0 < r) (ha : a.natAbs ≤ 1000000000) (hb : b.natAbs ≤ 1000000000) (hc : c.natAbs ≤ 1000000000) (hr' : r.natAbs ≤ 1000000000) : Ev (fun k => spec_l03Checked.f k a b c r) (chk (simp4 a b c r)) := by
  unfold spec_l03Checked.f
  refine Ev.bind (ssimp_ev hr ha hb hc hr') (Ev_eq fun k => ?_)
  simp only [sok_eq, Option.bind_some, chk]
  by_cases h : Ok (simp4 a b c r).1 (simp4 a b c r).2.1 (simp4 a b c r).2.2.1 (simp4 a b c r).2.2.2 <;> simp [h]
theorem ipure_eq (a b c : Int) : impl_PureOf.f a b c = some (if Ok a b c 1 then (a, b, c, 1) else (0, 0, 0, 0)) := by
  simp only [impl_PureOf.f, iok_eq, Option.bind_some]
  by_cases h : Ok a b c 1 <;> simp [h]
theorem it_l2 : ∀ (m : Nat) (out : List Int), out.length = m → m ≤ 2000000 → Dig out → ∃ r, Canon r ∧ val r = val out ∧ Ev (fun k => impl_times.l2 k out) r := by
  intro m
  induction m with
  | zero =>
    intro out hl _ hd
    obtain rfl : out = [] := List.length_eq_zero_iff.1 hl
    refine ⟨[], ⟨Dig_nil, Top_nil⟩, rfl, Ev_at1 fun k => ?_⟩
    simp [impl_times.l2]
  | succ m ih =>
    intro out hl hm hd
    have hs := take_len_succ hl
    have hw : wrap64 ((out.length : Int) - 1) = (m : Int) := by rw [wrap_id (by omega) (by omega)]; omega
    by_cases h0 : rd out (m : Int) = 0
    · obtain ⟨r, hr, hv, he⟩ := ih (out.take m) (by rw [List.length_take]; omega) (by omega) (Dig_take hd m)
      refine ⟨r, hr, ?_, Ev_round _ (fun k => ?_) he⟩
      · rw [hv]
        conv => rhs; rw [hs, val_snoc, h0]
        omega
      · simp only [impl_times.l2]
        rw [hw, if_pos (by omega), if_pos (by omega), if_pos (by omega), if_pos h0, if_pos (by omega)]
        rfl
    · refine ⟨out, ⟨hd, Top_last (by omega) (by rw [show (out.length : Int) - 1 = (m : Int) from by omega]; exact h0)⟩, rfl, Ev_at1 fun k => ?_⟩
      simp only [impl_times.l2]
      rw [hw, if_pos (by omega), if_pos (by omega), if_pos (by omega), if_neg h0]
theorem it_l1 : ∀ (f : Nat) (c : Int) (out : List Int), 0 ≤ c → c ≤ 10000000000000 → c < (10000 : Int) ^ f → Dig out → out.length + f ≤ 2000000 →
    ∃ r, Canon r ∧ val r = val out + B out.length * c ∧ Ev (fun k => impl_times.l1 k out c) r := by
  intro f
  induction f with
  | zero =>
    intro c out h0 _ h1 hd hl
    have hc : c = 0 := by simp at h1; omega
    obtain ⟨r, hr, hv, he⟩ := it_l2 out.length out rfl (by omega) hd
    refine ⟨r, hr, by rw [hv, hc]; omega, Ev_round _ (fun k => ?_) he⟩
    simp only [impl_times.l1]
    rw [if_neg (by omega)]
  | succ f ih =>
    intro c out h0 h2 h1 hd hl
    by_cases hc : c > 0
    · have hq : c / 10000 < (10000 : Int) ^ f := by rw [Int.pow_succ] at h1; exact Int.ediv_lt_of_lt_mul (by omega) h1
      obtain ⟨r, hr, hv, he⟩ := ih (c / 10000) (out ++ [c % 10000]) (by omega) (by omega) hq (Dig_snoc hd (mod_dig c)) (by simp; omega)
      refine ⟨r, hr, ?_, Ev_round _ (fun k => ?_) he⟩
      · rw [hv, val_snoc, List.length_append, List.length_singleton, B_succ, Int.mul_comm 10000, Int.mul_assoc, Int.add_assoc, ← Int.mul_add, Int.emod_add_mul_ediv]
      · obtain ⟨e1, e2⟩ := dm_nonneg (show 0 ≤ c by omega)
        simp only [impl_times.l1]
        rw [if_pos hc, if_pos (by omega), e1, e2, wrap_id (by omega) (by omega)]
    · have hc : c = 0 := by omega
      obtain ⟨r, hr, hv, he⟩ := it_l2 out.length out rfl (by omega) hd
      refine ⟨r, hr, by rw [hv, hc]; omega, Ev_round _ (fun k => ?_) he⟩
      simp only [impl_times.l1]
      rw [if_neg (by omega)]
theorem it_l0 (b : List Int) (hb : Dig b) (hl : b.length ≤ 1000000) (n : Int) (hn : 0 ≤ n ∧ n ≤ 10000000000000) : ∀ (d i : Nat) (out : List Int) (c : Int), i + d = b.length → out.length = i → Dig out → 0 ≤ c ∧ c ≤ n →
    val out + B i * c = n * val (b.take i) → ∃ r, Canon r ∧ val r = n * val b ∧ Ev (fun k => impl_times.l0 k n out c b (b.length : Int) (i : Int)) r := by
  intro d
  induction d with
  | zero =>
    intro i out c hi ho hd hc hv
    obtain ⟨r, hr, hrv, he⟩ := it_l1 5 c out hc.1 (by omega) (by omega) hd (by omega)
    refine ⟨r, hr, ?_, Ev_round _ (fun k => ?_) he⟩
    · rw [hrv, ho, hv, show i = b.length from by omega, List.take_length]
    · simp only [impl_times.l0]
      rw [if_neg (by omega)]
  | succ d ih =>
    intro i out c hi ho hd hc hv
    have hg := hb _ (rd_mem b (i : Int) (by omega) (by omega))
    have hcb := carry_bd hg hn.1 hc
    generalize hx : rd b (i : Int) * n + c = x at hcb
    obtain ⟨r, hr, hrv, he⟩ := ih (i + 1) (out ++ [x % 10000]) (x / 10000) (by omega) (by simp [ho]) (Dig_snoc hd (mod_dig x)) hcb.2.2 (by
      rw [val_snoc, ho, B_succ, take_snoc b i (by omega), val_snoc, List.length_take, Nat.min_eq_left (by omega)]
      exact mul_step hv hx.symm)
    refine ⟨r, hr, hrv, Ev_round _ (fun k => ?_) he⟩
    obtain ⟨e1, e2⟩ := dm_nonneg hcb.1
    have hm : 0 ≤ rd b (i : Int) * n := Int.mul_nonneg hg.1 hn.1
    simp only [impl_times.l0]
    rw [if_pos (by omega), if_pos (by omega), if_pos (by omega), if_pos (by omega), wrap_id (n := rd b (i : Int) * n) (by omega) (by omega), hx, wrap_id (n := x) (by omega) (by omega), e1, e2, wrap_id (n := x / 10000) (by omega) (by omega), wrap_id (n := (i : Int) + 1) (by omega) (by omega)]
    simp
theorem itimes_ev {b : List Int} (hb : Dig b) (hl : b.length ≤ 1000000) {n : Int} (hn : 0 ≤ n ∧ n ≤ 10000000000000) : ∃ r, Canon r ∧ val r = n * val b ∧ Ev (fun k => impl_times.f k b n) r := by
  have := it_l0 b hb hl n hn b.length 0 [] 0 (by omega) rfl Dig_nil (by omega) (by simp [val])
  simpa [impl_times.f] using this
theorem io_loop (a b : List Int) (ha : Dig a) (hb : Dig b) (hl : a.length = b.length) (hs : a.length ≤ 2000000) : ∀ (j : Nat), j ≤ a.length → a.drop j = b.drop j →
    Ev (fun k => impl_order.l0 k a b ((j : Int) - 1)) (cmpI (val a) (val b)) := by
  intro j
  induction j with
  | zero =>
    intro _ hd
    have e : a = b := by simpa using hd
    refine Ev_at1 fun k => ?_
    simp only [impl_order.l0]
    rw [if_neg (by omega), e, cmpI_self]
  | succ j ih =>
    intro hj hd
    have hw : ((j + 1 : Nat) : Int) - 1 = (j : Int) := by omega
    rw [hw]
    rcases Int.lt_trichotomy (rd a (j : Int)) (rd b (j : Int)) with h | h | h
    · refine Ev_at1 fun k => ?_
      simp only [impl_order.l0]
      rw [if_pos (by omega), if_pos (by omega), if_pos (by omega), if_pos (by omega), if_pos h, cmpI_lt (val_at ha hb j (by omega) (by omega) hd h)]
    · refine Ev_round _ (fun k => ?_) (ih (by omega) (by rw [drop_cons a j (by omega), drop_cons b j (by omega), h, hd]))
      simp only [impl_order.l0]
      rw [if_pos (by omega), if_pos (by omega), if_pos (by omega), if_pos (by omega), if_neg (by omega), if_neg (by omega), wrap_id (by omega) (by omega)]
    · refine Ev_at1 fun k => ?_
      simp only [impl_order.l0]
      rw [if_pos (by omega), if_pos (by omega), if_pos (by omega), if_pos (by omega), if_neg (by omega), if_pos (by omega), cmpI_gt (val_at hb ha j (by omega) (by omega) hd.symm h)]
theorem iorder_ev {a b : List Int} (ha : Canon a) (hb : Canon b) (hs : a.length ≤ 2000000) : Ev (fun k => impl_order.f k a b) (cmpI (val a) (val b)) := by
  unfold impl_order.f
  by_cases h : a.length = b.length
  · refine Ev.congr (fun k => by rw [if_pos (by omega)]) ?_
    rw [wrap_id (by omega) (by omega)]
    exact io_loop a b ha.1 hb.1 h hs a.length (Nat.le_refl _) (by rw [List.drop_length, h, List.drop_length])
  · refine Ev_eq fun k => ?_
    rw [if_neg (by omega)]
    rcases Nat.lt_or_gt_of_ne h with h1 | h1
    · rw [if_pos (by omega), cmpI_lt (Canon_len_lt ha hb h1)]
    · rw [if_neg (by omega), cmpI_gt (Canon_len_lt hb ha h1)]
theorem pow_le {p : Int} (hp : 1 ≤ p) {m n : Nat} (h : m ≤ n) : p ^ m ≤ p ^ n := by
  obtain ⟨d, rfl⟩ := Nat.le.dest h
  clear h
  induction d with
  | zero => exact Int.le_refl _
  | succ d ih =>
    have h0 : 0 ≤ p ^ (m + d) := Int.pow_nonneg (by omega)
    have : p ^ (m + d) * 1 ≤ p ^ (m + d) * p := Int.mul_le_mul_of_nonneg_left hp h0
    rw [show m + (d + 1) = (m + d) + 1 from by omega, Int.pow_succ]
    omega
/-- The factor's loop: it comes to the next product, and goes on. -/
theorem ip_l2 {p e lim : Int} (hp : 2 ≤ p ∧ p ≤ 5) {x7 : List Int} (h7 : Canon x7) (hl : x7.length ≤ 1000000) {rows : List (List Int)} {m i0 left n : Int} (hn : 0 ≤ n ∧ n ≤ 29) (hpn : p ^ n.toNat ≤ 1000000000) {r : Int → List Int → Prop} :
    ∀ (d i : Nat) (x12 : Int), (i : Int) + d = n → x12 = p ^ i → ∃ t, Canon t ∧ val t = p ^ n.toNat * val x7 ∧
      ∀ res : List Int, Ev (fun k => impl_product.l1 k t [p, e, lim] (wrap64 (left - n)) rows m i0) res → Ev (fun k => impl_product.l2 k x7 [p, e, lim] left n x12 (i : Int) rows m i0) res := by
  intro d
  induction d with
  | zero =>
    intro i x12 hi hx
    have hin : i = n.toNat := by omega
    have hpos : 0 ≤ p ^ n.toNat := Int.pow_nonneg (by omega)
    obtain ⟨t, ht, hv, he⟩ := itimes_ev h7.1 hl (n := x12) (by rw [hx, hin]; omega)
    refine ⟨t, ht, by rw [hv, hx, hin], fun res hres => Ev.step (f := fun k => (impl_times.f k x7 x12).bind fun t192 => (impl_product.l1 k t192 [p, e, lim] (wrap64 (left - n)) rows m i0)) (fun k => ?_) (Ev.bind he hres)⟩
    simp only [impl_product.l2]
    rw [if_neg (by omega)]
  | succ d ih =>
    intro i x12 hi hx
    have h1 : p ^ (i + 1) ≤ p ^ n.toNat := pow_le (by omega) (by omega)
    have h0 : 0 ≤ p ^ (i + 1) := Int.pow_nonneg (by omega)
    obtain ⟨t, ht, hv, he⟩ := ih (i + 1) (p ^ (i + 1)) (by omega) rfl
    refine ⟨t, ht, hv, fun res hres => Ev_round _ (fun k => ?_) (he res hres)⟩
    have hr : rd [p, e, lim] 0 = p := rfl
    simp only [impl_product.l2]
    rw [if_pos (by omega), if_pos (by simp), hr, hx, ← Int.pow_succ, wrap_id (n := p ^ (i + 1)) (by omega) (by omega), wrap_id (n := (i : Int) + 1) (by omega) (by omega)]
    rfl
/-- One prime's loop. -/
theorem ip_l1 {p e lim : Int} (hp : 2 ≤ p ∧ p ≤ 5) (hlim : 1 ≤ lim ∧ lim ≤ 29) (hpl : p ^ lim.toNat ≤ 1000000000) {rows : List (List Int)} {m i0 : Int} (N : Nat) (hN : N ≤ 1000000) (hi0 : 0 ≤ i0 ∧ i0 ≤ 10) :
    ∀ (f : Nat) (left : Int) (x7 : List Int), 0 ≤ left → left < f → left ≤ 1000000 → Canon x7 → p ^ left.toNat * val x7 < 2 ^ N → ∃ t, Canon t ∧ val t = p ^ left.toNat * val x7 ∧
      ∀ res : List Int, Ev (fun k => impl_product.l0 k t rows m (i0 + 1)) res → Ev (fun k => impl_product.l1 k x7 [p, e, lim] left rows m i0) res := by
  intro f
  induction f with
  | zero => intro left x7 h0 h1; omega
  | succ f ih =>
    intro left x7 h0 h1 hle h7 hv
    by_cases hz : left > 0
    · have hv0 := (val_bd h7.1).1
      have hmn : mn left lim = if lim < left then lim else left := rfl
      generalize hnn : mn left lim = n at hmn
      have hn : 1 ≤ n ∧ n ≤ left ∧ n ≤ lim := by split at hmn <;> omega
      have hsplit : p ^ left.toNat = p ^ (left - n).toNat * p ^ n.toNat := by rw [← Int.pow_add]; congr 1; omega
      have hle1 : val x7 ≤ p ^ left.toNat * val x7 := by
        have h1 : 1 ≤ p ^ left.toNat := by have := pow_le (p := p) (by omega) (Nat.zero_le left.toNat); simpa using this
        have := Int.mul_le_mul_of_nonneg_right h1 hv0
        omega
      have hl7 : x7.length ≤ 1000000 := Nat.le_trans (Canon_len h7 (Int.lt_of_le_of_lt hle1 hv)) hN
      obtain ⟨t, ht, htv, he⟩ := ip_l2 (p := p) (e := e) (lim := lim) hp h7 hl7 (rows := rows) (m := m) (i0 := i0) (left := left) (n := n) (by omega) (Int.le_trans (pow_le (by omega) (by omega)) hpl) (r := fun _ _ => True) n.toNat 0 1 (by omega) (by simp)
      have hv2 : p ^ (left - n).toNat * val t = p ^ left.toNat * val x7 := by rw [htv, hsplit, Int.mul_assoc]
      obtain ⟨u, hu, huv, hue⟩ := ih (left - n) t (by omega) (by omega) (by omega) ht (by rw [hv2]; exact hv)
      refine ⟨u, hu, by rw [huv, hv2], fun res hres => Ev_round _ (fun k => ?_) (he res ?_)⟩
      · have hr : rd [p, e, lim] 2 = lim := rfl
        simp only [impl_product.l1]
        rw [if_pos hz, if_pos (by simp), hr, hnn]
        rfl
      · rw [wrap_id (by omega) (by omega)]; exact hue res hres
    · obtain rfl : left = 0 := by omega
      refine ⟨x7, h7, by simp, fun res hres => Ev_round _ (fun k => ?_) hres⟩
      simp only [impl_product.l1]
      rw [if_neg hz, wrap_id (by omega) (by omega)]
theorem ip_l0 {rows : List (List Int)} {m : Int} (i : Nat) (x7 : List Int) (res : List Int) {p e lim : Int} (hm : m = rows.length) (hi : i < rows.length) (hr : rd_L2 rows (i : Int) = [p, e, lim])
    (h : Ev (fun k => impl_product.l1 k x7 [p, e, lim] e rows m (i : Int)) res) : Ev (fun k => impl_product.l0 k x7 rows m (i : Int)) res := by
  refine Ev_round _ (fun k => ?_) h
  simp only [impl_product.l0]
  rw [if_pos (by omega), if_pos (by omega), if_pos (by omega), hr, if_pos (by simp)]
  rfl
theorem iproduct_ev {a b c : Int} (ha : 0 ≤ a ∧ a ≤ 100000) (hb : 0 ≤ b ∧ b ≤ 100000) (hc : 0 ≤ c ∧ c ≤ 100000) : ∃ r, Canon r ∧ val r = ((num a b c : Nat) : Int) ∧ r.length ≤ 1000000 ∧ Ev (fun k => impl_product.f k a b c) r := by
  have hnum : ((num a b c : Nat) : Int) = 2 ^ a.toNat * 3 ^ b.toNat * 5 ^ c.toNat := by simp [num]
  have h3 : (3 : Nat) ^ b.toNat ≤ 2 ^ (2 * b.toNat) := by rw [Nat.pow_mul]; exact Nat.pow_le_pow_left (by omega) _
  have h5 : (5 : Nat) ^ c.toNat ≤ 2 ^ (3 * c.toNat) := by rw [Nat.pow_mul]; exact Nat.pow_le_pow_left (by omega) _
  have hN : num a b c < 2 ^ (a.toNat + 2 * b.toNat + 3 * c.toNat + 1) := by
    have h1 : num a b c ≤ 2 ^ a.toNat * 2 ^ (2 * b.toNat) * 2 ^ (3 * c.toNat) := Nat.mul_le_mul (Nat.mul_le_mul (Nat.le_refl _) h3) h5
    rw [← Nat.pow_add, ← Nat.pow_add] at h1
    exact Nat.lt_of_le_of_lt h1 (Nat.pow_lt_pow_right (by omega) (by omega))
  generalize hNe : a.toNat + 2 * b.toNat + 3 * c.toNat + 1 = N at hN
  have hNI : ((num a b c : Nat) : Int) < 2 ^ N := by exact_mod_cast hN
  have p2 : (0 : Int) < 2 ^ a.toNat := Int.pow_pos (by omega)
  have p3 : (0 : Int) < 3 ^ b.toNat := Int.pow_pos (by omega)
  have p5 : (0 : Int) < 5 ^ c.toNat := Int.pow_pos (by omega)
  have q2 : (2 : Int) ^ a.toNat ≤ 2 ^ a.toNat * 3 ^ b.toNat := by have := Int.mul_le_mul_of_nonneg_left (show 1 ≤ (3 : Int) ^ b.toNat by omega) (Int.le_of_lt p2); omega
  have q23 : (0 : Int) < 2 ^ a.toNat * 3 ^ b.toNat := Int.mul_pos p2 p3
  have q3 : (2 : Int) ^ a.toNat * 3 ^ b.toNat ≤ 2 ^ a.toNat * 3 ^ b.toNat * 5 ^ c.toNat := by have := Int.mul_le_mul_of_nonneg_left (show 1 ≤ (5 : Int) ^ c.toNat by omega) (Int.le_of_lt q23); omega
  rw [hnum] at hNI
  generalize hrows : [[2, a, 29], [3, b, 18], [5, c, 12]] = rows
  have hm : rows.length = 3 := by rw [← hrows]; rfl
  obtain ⟨t, ht, htv, he⟩ := ip_l1 (p := 2) (e := a) (lim := 29) (by omega) (by omega) (by decide) (rows := rows) (m := 3) (i0 := 0) N (by omega) (by omega) (a.toNat + 1) a [1] ha.1 (by omega) (by omega) Canon_one (by simp only [val]; omega)
  have htv' : val t = 2 ^ a.toNat := by rw [htv]; simp [val]
  obtain ⟨u, hu, huv, hue⟩ := ip_l1 (p := 3) (e := b) (lim := 18) (by omega) (by omega) (by decide) (rows := rows) (m := 3) (i0 := 1) N (by omega) (by omega) (b.toNat + 1) b t hb.1 (by omega) (by omega) ht (by rw [htv', Int.mul_comm]; omega)
  have huv' : val u = 2 ^ a.toNat * 3 ^ b.toNat := by rw [huv, htv', Int.mul_comm]
  obtain ⟨v, hv, hvv, hve⟩ := ip_l1 (p := 5) (e := c) (lim := 12) (by omega) (by omega) (by decide) (rows := rows) (m := 3) (i0 := 2) N (by omega) (by omega) (c.toNat + 1) c u hc.1 (by omega) (by omega) hu (by rw [huv', Int.mul_comm]; exact hNI)
  have hvv' : val v = 2 ^ a.toNat * 3 ^ b.toNat * 5 ^ c.toNat := by rw [hvv, huv', Int.mul_comm]
  refine ⟨v, hv, by rw [hnum, hvv'], Nat.le_trans (Canon_len hv (by rw [hvv']; exact hNI)) (by omega), ?_⟩
  have hend : Ev (fun k => impl_product.l0 k v rows 3 ((3 : Nat) : Int)) v := Ev_at1 fun k => by simp only [impl_product.l0]; rw [if_neg (by omega)]
  have r2 := ip_l0 (m := 3) 2 u v (p := 5) (e := c) (lim := 12) (by omega) (by omega) (by rw [← hrows]; rfl) (hve v hend)
  have r1 := ip_l0 (m := 3) 1 t v (p := 3) (e := b) (lim := 18) (by omega) (by omega) (by rw [← hrows]; rfl) (hue v r2)
  have r0 := ip_l0 (m := 3) 0 [1] v (p := 2) (e := a) (lim := 29) (by omega) (by omega) (by rw [← hrows]; rfl) (he v r1)
  unfold impl_product.f
  rw [hrows]
  simp only [Option.bind_some, hm]
  exact r0
theorem mx_nonneg (a : Int) : mx a 0 = ((a.toNat : Nat) : Int) := by unfold mx; split <;> omega
theorem isign_ev {a b c : Int} (ha : a.natAbs ≤ 100000) (hb : b.natAbs ≤ 100000) (hc : c.natAbs ≤ 100000) : Ev (fun k => impl_sign.f k a b c) (sg a b c) := by
  unfold impl_sign.f
  rw [wrap_id (n := -a) (by omega) (by omega), wrap_id (n := -b) (by omega) (by omega), wrap_id (n := -c) (by omega) (by omega)]
  simp only [mx_nonneg]
  obtain ⟨r, hr, hrv, hrl, he⟩ := iproduct_ev (a := ((a.toNat : Nat) : Int)) (b := ((b.toNat : Nat) : Int)) (c := ((c.toNat : Nat) : Int)) (by omega) (by omega) (by omega)
  obtain ⟨s, hs, hsv, hsl, hse⟩ := iproduct_ev (a := (((-a).toNat : Nat) : Int)) (b := (((-b).toNat : Nat) : Int)) (c := (((-c).toNat : Nat) : Int)) (by omega) (by omega) (by omega)
  have e1 : num ((a.toNat : Nat) : Int) ((b.toNat : Nat) : Int) ((c.toNat : Nat) : Int) = num a b c := by simp only [num, Int.toNat_natCast]
  have e2 : num (((-a).toNat : Nat) : Int) (((-b).toNat : Nat) : Int) (((-c).toNat : Nat) : Int) = num (-a) (-b) (-c) := by simp only [num, Int.toNat_natCast]
  have ho := iorder_ev hr hs (by omega)
  rw [hrv, hsv, e1, e2] at ho
  exact Ev.bind he (Ev.bind hse (Ev.bind ho (Ev_eq fun k => rfl)))
def cmpL (a b c r a' b' c' r' : Int) : Int := if Ok a b c r ∧ Ok a' b' c' r' then sg (a * r' - a' * r) (b * r' - b' * r) (c * r' - c' * r) else 0
theorem icmp_ev (a b c r a' b' c' r' : Int) : Ev (fun k => impl_CompareIntervals.f k a b c r a' b' c' r') (cmpL a b c r a' b' c' r') := by
  unfold impl_CompareIntervals.f
  by_cases h : Ok a b c r
  · by_cases h' : Ok a' b' c' r'
    · refine Ev_bindE (fun k => iok_eq ..) (Ev.congr (fun k => by rw [if_pos (by simpa using h)]) (Ev_bindE (fun k => iok_eq ..) (Ev.congr (fun k => by rw [if_pos (by simpa using h')]) ?_)))
      obtain ⟨k1, k2, k3, k4⟩ := id h
      obtain ⟨l1, l2, l3, l4⟩ := id h'
      have m1 := bd_mul k2 (show 0 ≤ r' ∧ r' ≤ 12 by omega) (by omega)
      have m2 := bd_mul k3 (show 0 ≤ r' ∧ r' ≤ 12 by omega) (by omega)
      have m3 := bd_mul k4 (show 0 ≤ r' ∧ r' ≤ 12 by omega) (by omega)
      have n1 := bd_mul l2 (show 0 ≤ r ∧ r ≤ 12 by omega) (by omega)
      have n2 := bd_mul l3 (show 0 ≤ r ∧ r ≤ 12 by omega) (by omega)
      have n3 := bd_mul l4 (show 0 ≤ r ∧ r ≤ 12 by omega) (by omega)
      have e : cmpL a b c r a' b' c' r' = sg (a * r' - a' * r) (b * r' - b' * r) (c * r' - c' * r) := by unfold cmpL; rw [if_pos ⟨h, h'⟩]
      rw [e, wrap_id (n := a * r') (by omega) (by omega), wrap_id (n := b * r') (by omega) (by omega), wrap_id (n := c * r') (by omega) (by omega), wrap_id (n := a' * r) (by omega) (by omega), wrap_id (n := b' * r) (by omega) (by omega), wrap_id (n := c' * r) (by omega) (by omega),
        wrap_id (n := a * r' - a' * r) (by omega) (by omega), wrap_id (n := b * r' - b' * r) (by omega) (by omega), wrap_id (n := c * r' - c' * r) (by omega) (by omega)]
      exact Ev.bind (isign_ev (by omega) (by omega) (by omega)) (Ev_eq fun k => rfl)
    · refine Ev_bindE (fun k => iok_eq ..) (Ev.congr (fun k => by rw [if_pos (by simpa using h)]) (Ev_bindE (fun k => iok_eq ..) (Ev_eq fun k => ?_)))
      rw [if_neg (by simpa using h')]; simp [cmpL, h']
  · refine Ev_bindE (fun k => iok_eq ..) (Ev_eq fun k => ?_)
    rw [if_neg (by simpa using h)]; simp [cmpL, h]
/-- One pass over the groups, in place. -/
theorem st_l1 (b : List Int) (hb : Canon b) (hl : b.length ≤ 1000000) {n e x7 : Int} (hn : 1 ≤ n ∧ n ≤ 9) : ∀ (d i : Nat) (cur out : List Int) (c : Int), i + d = b.length → out.length = i → Dig out → 0 ≤ c ∧ c ≤ n → cur = out ++ b.drop i →
    val out + B i * c = n * val (b.take i) → ∃ r, Canon r ∧ val r = n * val b ∧ r.length ≤ b.length + 1 ∧ ∀ res : List Int, Ev (fun k => spec_l04Times.l0 k r n e (wrap64 (x7 + 1))) res → Ev (fun k => spec_l04Times.l1 k cur n e x7 c (i : Int)) res := by
  intro d
  induction d with
  | zero =>
    intro i cur out c hi ho hd hc hcur hv
    have hib : i = b.length := by omega
    rw [hib, List.drop_length, List.append_nil] at hcur
    subst hcur
    rw [hib, List.take_length] at hv
    by_cases h0 : c > 0
    · refine ⟨cur ++ [c], ⟨Dig_snoc hd (by omega), Top_last (by simp) ?_⟩, ?_, by simp; omega, fun res hres => Ev_round _ (fun k => ?_) hres⟩
      · rw [show ((cur ++ [c]).length : Int) - 1 = (cur.length : Int) from by simp, rd_nat]; simp; omega
      · rw [val_snoc, ho, hib, hv]
      · simp only [spec_l04Times.l1]
        rw [if_neg (by omega), if_pos h0, if_pos (by omega)]
    · have hc0 : c = 0 := by omega
      rw [hc0, Int.mul_zero, Int.add_zero] at hv
      refine ⟨cur, ⟨hd, ?_⟩, hv, by omega, fun res hres => Ev_round _ (fun k => ?_) hres⟩
      · by_cases hne : cur = []
        · rw [hne]; exact Top_nil
        · have hbne : b ≠ [] := by intro q; rw [q] at hib; simp at hib; rw [hib] at ho; exact hne (List.length_eq_zero_iff.1 ho)
          refine (Top_iff hd hne).2 ?_
          have h1 := (Top_iff hb.1 hbne).1 hb.2
          have h2 := (val_bd hb.1).1
          have h3 := Int.mul_le_mul_of_nonneg_right hn.1 h2
          rw [hv, ho, hib]; omega
      · simp only [spec_l04Times.l1]
        rw [if_neg (by omega), if_neg h0]
  | succ d ih =>
    intro i cur out c hi ho hd hc hcur hv
    have hrd : rd cur (i : Int) = rd b (i : Int) := by
      rw [hcur, rd_nat, List.getD_eq_getElem?_getD, List.getElem?_append_right (by omega), ho, Nat.sub_self, drop_cons b i (by omega)]; simp
    have hcl : cur.length = b.length := by rw [hcur, List.length_append, List.length_drop]; omega
    have hg := hb.1 _ (rd_mem b (i : Int) (by omega) (by omega))
    have hcb := carry_bd hg (show 0 ≤ n by omega) hc
    have hm : 0 ≤ rd b (i : Int) * n := Int.mul_nonneg hg.1 (by omega)
    generalize hx : rd b (i : Int) * n + c = x at hcb
    obtain ⟨r, hr, hrv, hrl, he⟩ := ih (i + 1) (cur.set i (x % 10000)) (out ++ [x % 10000]) (x / 10000) (by omega) (by simp [ho]) (Dig_snoc hd (mod_dig x)) hcb.2.2 (by
        rw [hcur, drop_cons b i (by omega), List.set_append_right _ _ (by omega), ho, Nat.sub_self]; simp) (by
      rw [val_snoc, ho, B_succ, take_snoc b i (by omega), val_snoc, List.length_take, Nat.min_eq_left (by omega)]
      exact mul_step hv hx.symm)
    refine ⟨r, hr, hrv, hrl, fun res hres => Ev_round _ (fun k => ?_) (he res hres)⟩
    obtain ⟨e1, e2⟩ := dm_nonneg hcb.1
    simp only [spec_l04Times.l1]
    rw [if_pos (by omega), if_pos (by omega), hrd, wrap_id (n := rd b (i : Int) * n) (by omega) (by omega), hx, wrap_id (n := x) (by omega) (by omega), e1, e2, wrap_id (n := x / 10000) (by omega) (by omega), wrap_id (n := (i : Int) + 1) (by omega) (by omega)]
    simp
theorem st_l0 {n : Int} (hn : 1 ≤ n ∧ n ≤ 9) : ∀ (d i : Nat) (b : List Int), Canon b → b.length + d ≤ 1000000 → i + d ≤ 1000000 → ∃ r, Canon r ∧ val r = n ^ d * val b ∧ r.length ≤ b.length + d ∧ Ev (fun k => spec_l04Times.l0 k b n ((i + d : Nat) : Int) (i : Int)) r := by
  intro d
  induction d with
  | zero =>
    intro i b hb hl hi
    refine ⟨b, hb, by simp, by omega, Ev_at1 fun k => ?_⟩
    simp only [spec_l04Times.l0]
    rw [if_neg (by omega)]
  | succ d ih =>
    intro i b hb hl hi
    obtain ⟨r, hr, hrv, hrl, he⟩ := st_l1 b hb (by omega) (n := n) (e := ((i + (d + 1) : Nat) : Int)) (x7 := (i : Int)) hn b.length 0 b [] 0 (by omega) rfl Dig_nil (by omega) (by simp) (by simp [val])
    obtain ⟨s, hs, hsv, hsl, hse⟩ := ih (i + 1) r hr (by omega) (by omega)
    refine ⟨s, hs, by rw [hsv, hrv, Int.pow_succ, Int.mul_assoc], by omega, Ev_round _ (fun k => ?_) (he s ?_)⟩
    · simp only [spec_l04Times.l0]
      rw [if_pos (by omega)]
      rfl
    · rw [wrap_id (by omega) (by omega)]
      rw [show i + 1 + d = i + (d + 1) from by omega] at hse
      exact hse
theorem stimes_ev {b : List Int} (hb : Canon b) {n e : Int} (hn : 1 ≤ n ∧ n ≤ 9) (he : 0 ≤ e) (hl : (b.length : Int) + e ≤ 1000000) : ∃ r, Canon r ∧ val r = n ^ e.toNat * val b ∧ (r.length : Int) ≤ b.length + e ∧ Ev (fun k => spec_l04Times.f k b n e) r := by
  obtain ⟨r, hr, hrv, hrl, h⟩ := st_l0 hn e.toNat 0 b hb (by omega) (by omega)
  refine ⟨r, hr, hrv, by omega, ?_⟩
  unfold spec_l04Times.f
  rw [show ((0 + e.toNat : Nat) : Int) = e from by omega] at h
  exact h
theorem sc_loop (a b : List Int) (ha : Dig a) (hb : Dig b) (hl : a.length = b.length) (hs : a.length ≤ 2000000) : ∀ (j : Nat), j ≤ a.length → a.drop j = b.drop j →
    Ev (fun k => spec_l04Compare.l0 k a b ((j : Int) - 1)) (cmpI (val a) (val b)) := by
  intro j
  induction j with
  | zero =>
    intro _ hd
    have e : a = b := by simpa using hd
    refine Ev_at1 fun k => ?_
    simp only [spec_l04Compare.l0]
    rw [if_neg (by omega), e, cmpI_self]
  | succ j ih =>
    intro hj hd
    have hw : ((j + 1 : Nat) : Int) - 1 = (j : Int) := by omega
    rw [hw]
    rcases Int.lt_trichotomy (rd a (j : Int)) (rd b (j : Int)) with h | h | h
    · refine Ev_at1 fun k => ?_
      simp only [spec_l04Compare.l0]
      rw [if_pos (by omega), if_pos (by omega), if_pos (by omega), if_pos (by omega), if_neg (by omega), if_pos h, cmpI_lt (val_at ha hb j (by omega) (by omega) hd h)]
    · refine Ev_round _ (fun k => ?_) (ih (by omega) (by rw [drop_cons a j (by omega), drop_cons b j (by omega), h, hd]))
      simp only [spec_l04Compare.l0]
      rw [if_pos (by omega), if_pos (by omega), if_pos (by omega), if_pos (by omega), if_pos h, wrap_id (by omega) (by omega)]
    · refine Ev_at1 fun k => ?_
      simp only [spec_l04Compare.l0]
      rw [if_pos (by omega), if_pos (by omega), if_pos (by omega), if_pos (by omega), if_neg (by omega), if_neg (by omega), cmpI_gt (val_at hb ha j (by omega) (by omega) hd.symm h)]
theorem scomp_ev {a b : List Int} (ha : Canon a) (hb : Canon b) (hs : a.length ≤ 2000000) : Ev (fun k => spec_l04Compare.f k a b) (cmpI (val a) (val b)) := by
  unfold spec_l04Compare.f
  by_cases h : a.length = b.length
  · refine Ev.congr (fun k => by rw [if_pos (by omega)]) ?_
    rw [wrap_id (by omega) (by omega)]
    exact sc_loop a b ha.1 hb.1 h hs a.length (Nat.le_refl _) (by rw [List.drop_length, h, List.drop_length])
  · refine Ev_eq fun k => ?_
    rw [if_neg (by omega)]
    rcases Nat.lt_or_gt_of_ne h with h1 | h1
    · rw [if_pos (by omega), cmpI_lt (Canon_len_lt ha hb h1)]
    · rw [if_neg (by omega), cmpI_gt (Canon_len_lt hb ha h1)]
theorem smx_nonneg (a : Int) : mx a 0 = ((a.toNat : Nat) : Int) := by unfold mx; split <;> omega
theorem sprod {a b c : Int} (ha : a.natAbs ≤ 100000) (hb : b.natAbs ≤ 100000) (hc : c.natAbs ≤ 100000) : ∃ x y r, Ev (fun k => spec_l04Times.f k [1] 2 (mx a 0)) x ∧ Ev (fun k => spec_l04Times.f k x 3 (mx b 0)) y ∧ Ev (fun k => spec_l04Times.f k y 5 (mx c 0)) r ∧
    Canon r ∧ val r = ((num a b c : Nat) : Int) ∧ r.length ≤ 1000000 := by
  simp only [smx_nonneg]
  obtain ⟨x, hx, hxv, hxl, h1⟩ := stimes_ev Canon_one (n := 2) (e := ((a.toNat : Nat) : Int)) (by omega) (by omega) (by simp; omega)
  simp only [List.length_singleton] at hxl
  obtain ⟨y, hy, hyv, hyl, h2⟩ := stimes_ev hx (n := 3) (e := ((b.toNat : Nat) : Int)) (by omega) (by omega) (by omega)
  obtain ⟨r, hr, hrv, hrl, h3⟩ := stimes_ev hy (n := 5) (e := ((c.toNat : Nat) : Int)) (by omega) (by omega) (by omega)
  refine ⟨x, y, r, h1, h2, h3, hr, ?_, by omega⟩
  rw [hrv, hyv, hxv]
  simp only [num, val, Int.toNat_natCast, Int.natCast_mul, Int.natCast_pow, Int.mul_zero, Int.add_zero, Int.mul_one]
  show (5 : Int) ^ c.toNat * (3 ^ b.toNat * 2 ^ a.toNat) = 2 ^ a.toNat * 3 ^ b.toNat * 5 ^ c.toNat
  ac_rfl
theorem ssign_j {a b c : Int} (ha : a.natAbs ≤ 100000) (hb : b.natAbs ≤ 100000) (hc : c.natAbs ≤ 100000) : Ev (fun k => spec_l04Sign.j0 k a b c) (sg a b c) := by
  obtain ⟨x, y, r, h1, h2, h3, hr, hrv, hrl⟩ := sprod ha hb hc
  obtain ⟨x', y', r', h1', h2', h3', hr', hrv', hrl'⟩ := sprod (a := -a) (b := -b) (c := -c) (by omega) (by omega) (by omega)
  have ho := scomp_ev hr hr' (by omega)
  rw [hrv, hrv'] at ho
  refine Ev.step (f := fun k => _) (fun k => by simp only [spec_l04Sign.j0]; rfl) ?_
  rw [wrap_id (n := -a) (by omega) (by omega), wrap_id (n := -b) (by omega) (by omega), wrap_id (n := -c) (by omega) (by omega)]
  exact Ev.bind h1 (Ev.bind h2 (Ev.bind h3 (Ev.bind h1' (Ev.bind h2' (Ev.bind h3' (Ev.bind ho (Ev_eq fun k => rfl)))))))
theorem ssign_ev {a b c : Int} (ha : a.natAbs ≤ 100000) (hb : b.natAbs ≤ 100000) (hc : c.natAbs ≤ 100000) : Ev (fun k => spec_l04Sign.f k a b c) (sg a b c) := by
  unfold spec_l04Sign.f
  have hg : (Int.gcd a b : Nat) ≤ 100000 := by
    unfold Int.gcd
    rcases Nat.eq_zero_or_pos a.natAbs with h | h
    · rw [h, Nat.gcd_zero_left]; exact hb
    · exact Nat.le_trans (Nat.gcd_le_left _ h) ha
  refine Ev.bind (sgcd_ev a b (by omega) (by omega)) (Ev.bind (sgcd_ev _ c (by omega) (by omega)) ?_)
  have e : Int.gcd ((Int.gcd a b : Nat) : Int) c = Nat.gcd (Int.gcd a b) c.natAbs := by simp [Int.gcd]
  rw [e]
  have d1 : ((Nat.gcd (Int.gcd a b) c.natAbs : Nat) : Int) ∣ a := Int.dvd_trans (Int.ofNat_dvd.2 (Nat.gcd_dvd_left _ _)) (Int.gcd_dvd_left ..)
  have d2 : ((Nat.gcd (Int.gcd a b) c.natAbs : Nat) : Int) ∣ b := Int.dvd_trans (Int.ofNat_dvd.2 (Nat.gcd_dvd_left _ _)) (Int.gcd_dvd_right ..)
  have d3 : ((Nat.gcd (Int.gcd a b) c.natAbs : Nat) : Int) ∣ c := Int.ofNat_dvd_left.2 (Nat.gcd_dvd_right _ _)
  generalize Nat.gcd (Int.gcd a b) c.natAbs = g at d1 d2 d3
  by_cases h : (g : Int) > 1
  · refine Ev.congr (fun k => by rw [if_pos h, if_neg (by omega)]) ?_
    have bd : ∀ x : Int, x.natAbs ≤ 100000 → (x.tdiv (g : Int)).natAbs ≤ 100000 := fun x hx => by
      have : (x.tdiv (g : Int)).natAbs ≤ x.natAbs := by rw [Int.natAbs_tdiv]; exact Nat.div_le_self _ _
      omega
    have b1 := bd a ha
    have b2 := bd b hb
    have b3 := bd c hc
    rw [wrap_id (n := a.tdiv (g : Int)) (by omega) (by omega), wrap_id (n := b.tdiv (g : Int)) (by omega) (by omega), wrap_id (n := c.tdiv (g : Int)) (by omega) (by omega)]
    have es : sg a b c = sg (a.tdiv (g : Int)) (b.tdiv (g : Int)) (c.tdiv (g : Int)) := by
      rw [← sg_mul (k := (g : Int)) (by omega) (a.tdiv (g : Int)), Int.mul_tdiv_cancel' d1, Int.mul_tdiv_cancel' d2, Int.mul_tdiv_cancel' d3]
    rw [es]
    exact ssign_j b1 b2 b3
  · exact Ev.congr (fun k => by rw [if_neg h]) (ssign_j ha hb hc)
theorem scmp_ev (a b c r a' b' c' r' : Int) : Ev (fun k => spec_CompareIntervals.f k a b c r a' b' c' r') (cmpL a b c r a' b' c' r') := by
  unfold spec_CompareIntervals.f
  by_cases h : Ok a b c r
  · by_cases h' : Ok a' b' c' r'
    · refine Ev_bindE (fun k => sok_eq ..) (Ev.congr (fun k => by rw [if_pos (by simpa using h)]) (Ev_bindE (fun k => sok_eq ..) (Ev.congr (fun k => by rw [if_pos (by simpa using h')]) ?_)))
      obtain ⟨k1, k2, k3, k4⟩ := id h
      obtain ⟨l1, l2, l3, l4⟩ := id h'
      have m1 := bd_mul k2 (show 0 ≤ r' ∧ r' ≤ 12 by omega) (by omega)
      have m2 := bd_mul k3 (show 0 ≤ r' ∧ r' ≤ 12 by omega) (by omega)
      have m3 := bd_mul k4 (show 0 ≤ r' ∧ r' ≤ 12 by omega) (by omega)
      have n1 := bd_mul l2 (show 0 ≤ r ∧ r ≤ 12 by omega) (by omega)
      have n2 := bd_mul l3 (show 0 ≤ r ∧ r ≤ 12 by omega) (by omega)
      have n3 := bd_mul l4 (show 0 ≤ r ∧ r ≤ 12 by omega) (by omega)
      have e : cmpL a b c r a' b' c' r' = sg (a * r' - a' * r) (b * r' - b' * r) (c * r' - c' * r) := by unfold cmpL; rw [if_pos ⟨h, h'⟩]
      rw [e, wrap_id (n := a * r') (by omega) (by omega), wrap_id (n := b * r') (by omega) (by omega), wrap_id (n := c * r') (by omega) (by omega), wrap_id (n := a' * r) (by omega) (by omega), wrap_id (n := b' * r) (by omega) (by omega), wrap_id (n := c' * r) (by omega) (by omega),
        wrap_id (n := a * r' - a' * r) (by omega) (by omega), wrap_id (n := b * r' - b' * r) (by omega) (by omega), wrap_id (n := c * r' - c' * r) (by omega) (by omega)]
      exact Ev.bind (ssign_ev (by omega) (by omega) (by omega)) (Ev_eq fun k => rfl)
    · refine Ev_bindE (fun k => sok_eq ..) (Ev.congr (fun k => by rw [if_pos (by simpa using h)]) (Ev_bindE (fun k => sok_eq ..) (Ev_eq fun k => ?_)))
      rw [if_neg (by simpa using h')]; simp [cmpL, h']
  · refine Ev_bindE (fun k => sok_eq ..) (Ev_eq fun k => ?_)
    rw [if_neg (by simpa using h)]; simp [cmpL, h]
theorem io_bd {n r : Int} (hn : -2500 ≤ n ∧ n ≤ 2500) (hr : 1 ≤ r ∧ r ≤ 12) : -30000 ≤ n * r ∧ n * r ≤ 30000 := by
  have := bd_mul (x := n) (y := r) (A := 2500) (B := 12) hn (by omega) (by omega); omega
theorem ioct_low {a b c r n : Int} (o : Ok a b c r) (hn : n ≤ -2400) : 0 ≤ sg (a - n * r) b c := by
  obtain ⟨o1, o2, o3, o4⟩ := o
  refine sg_high (B := 400) (C := 400) (by omega) (by omega) (by omega) (by omega) ?_
  have := Int.mul_le_mul_of_nonneg_left o1.1 (show 0 ≤ -n by omega)
  rw [Int.mul_one, Int.neg_mul] at this
  omega
theorem ioct_high {a b c r n : Int} (o : Ok a b c r) (hn : 2401 ≤ n) : sg (a - n * r) b c < 0 := by
  obtain ⟨o1, o2, o3, o4⟩ := o
  refine sg_low (B := 400) (C := 400) (by omega) (by omega) (by omega) (by omega) ?_
  have := Int.mul_le_mul_of_nonneg_left o1.1 (show 0 ≤ n by omega)
  omega
theorem ioct_l1 {a b c r : Int} (o : Ok a b c r) : ∀ (d : Nat) (n : Int), n + d = 2401 → -2500 ≤ n → 0 ≤ sg (a - n * r) b c → ∃ m, n ≤ m ∧ m ≤ 2400 ∧ Oct a b c r m ∧ Ev (fun k => impl_OctavesIn.l1 k n a b c r) m := by
  obtain ⟨o1, o2, o3, o4⟩ := id o
  intro d
  induction d with
  | zero =>
    intro n hn _ h
    have := ioct_high o (n := n) (by omega)
    omega
  | succ d ih =>
    intro n hn hl h
    have b1 := io_bd (n := n + 1) (r := r) (by omega) o1
    have hs := isign_ev (a := a - (n + 1) * r) (b := b) (c := c) (by omega) (by omega) (by omega)
    by_cases hp : sg (a - (n + 1) * r) b c ≥ 0
    · obtain ⟨m, m1, m2, m3, m4⟩ := ih (n + 1) (by omega) (by omega) hp
      refine ⟨m, by omega, m2, m3, Ev_round (fun k => (impl_sign.f k (a - (n + 1) * r) b c).bind fun t => (if t ≥ 0 then (impl_OctavesIn.l1 k (n + 1) a b c r) else (some n))) (fun k => ?_) (Ev.bind hs (Ev.congr (fun k => if_pos hp) m4))⟩
      simp only [impl_OctavesIn.l1]
      rw [wrap_id (n := n + 1) (by omega) (by omega), wrap_id (n := (n + 1) * r) (by omega) (by omega), wrap_id (n := a - (n + 1) * r) (by omega) (by omega)]
    · refine ⟨n, by omega, by omega, ⟨h, by omega⟩, Ev_round (fun k => (impl_sign.f k (a - (n + 1) * r) b c).bind fun t => (if t ≥ 0 then (impl_OctavesIn.l1 k (n + 1) a b c r) else (some n))) (fun k => ?_) (Ev.bind hs (Ev_eq fun k => if_neg hp))⟩
      simp only [impl_OctavesIn.l1]
      rw [wrap_id (n := n + 1) (by omega) (by omega), wrap_id (n := (n + 1) * r) (by omega) (by omega), wrap_id (n := a - (n + 1) * r) (by omega) (by omega)]
theorem ioct_l0 {a b c r : Int} (o : Ok a b c r) : ∀ (d : Nat) (n : Int), n = -2400 + d → n ≤ 2401 → ∃ m, m ≤ n ∧ -2400 ≤ m ∧ 0 ≤ sg (a - m * r) b c ∧ ∀ res, Ev (fun k => impl_OctavesIn.l1 k m a b c r) res → Ev (fun k => impl_OctavesIn.l0 k n a b c r) res := by
  obtain ⟨o1, o2, o3, o4⟩ := id o
  intro d
  induction d with
  | zero =>
    intro n hn hu
    have b1 := io_bd (n := n) (r := r) (by omega) o1
    have hs := isign_ev (a := a - n * r) (b := b) (c := c) (by omega) (by omega) (by omega)
    have hp := ioct_low o (n := n) (by omega)
    refine ⟨n, by omega, by omega, hp, fun res hres => Ev_round (fun k => (impl_sign.f k (a - n * r) b c).bind fun t => (if t < 0 then (impl_OctavesIn.l0 k (n - 1) a b c r) else (impl_OctavesIn.l1 k n a b c r))) (fun k => ?_) (Ev.bind hs (Ev.congr (fun k => if_neg (by omega)) hres))⟩
    simp only [impl_OctavesIn.l0]
    rw [wrap_id (n := n * r) (by omega) (by omega), wrap_id (n := a - n * r) (by omega) (by omega), wrap_id (n := n - 1) (by omega) (by omega)]
  | succ d ih =>
    intro n hn hu
    have b1 := io_bd (n := n) (r := r) (by omega) o1
    have hs := isign_ev (a := a - n * r) (b := b) (c := c) (by omega) (by omega) (by omega)
    by_cases hp : sg (a - n * r) b c < 0
    · obtain ⟨m, m1, m2, m3, m4⟩ := ih (n - 1) (by omega) (by omega)
      refine ⟨m, by omega, m2, m3, fun res hres => Ev_round (fun k => (impl_sign.f k (a - n * r) b c).bind fun t => (if t < 0 then (impl_OctavesIn.l0 k (n - 1) a b c r) else (impl_OctavesIn.l1 k n a b c r))) (fun k => ?_) (Ev.bind hs (Ev.congr (fun k => if_pos hp) (m4 res hres)))⟩
      simp only [impl_OctavesIn.l0]
      rw [wrap_id (n := n * r) (by omega) (by omega), wrap_id (n := a - n * r) (by omega) (by omega), wrap_id (n := n - 1) (by omega) (by omega)]
    · refine ⟨n, by omega, by omega, by omega, fun res hres => Ev_round (fun k => (impl_sign.f k (a - n * r) b c).bind fun t => (if t < 0 then (impl_OctavesIn.l0 k (n - 1) a b c r) else (impl_OctavesIn.l1 k n a b c r))) (fun k => ?_) (Ev.bind hs (Ev.congr (fun k => if_neg (by omega)) hres))⟩
      simp only [impl_OctavesIn.l0]
      rw [wrap_id (n := n * r) (by omega) (by omega), wrap_id (n := a - n * r) (by omega) (by omega), wrap_id (n := n - 1) (by omega) (by omega)]
theorem tdiv_small {x y : Int} (hy : 1000000 ≤ y) (hx : -2000000000 ≤ x ∧ x ≤ 2000000000) : -2000 ≤ x.tdiv y ∧ x.tdiv y ≤ 2000 := by
  have h1 : (x.tdiv y).natAbs = x.natAbs / y.natAbs := Int.natAbs_tdiv x y
  have h2 : x.natAbs / y.natAbs ≤ 2000000000 / 1000000 := Nat.le_trans (Nat.div_le_div_left (show 1000000 ≤ y.natAbs by omega) (by omega)) (Nat.div_le_div_right (by omega))
  omega
theorem ioct_ev {a b c r : Int} (o : Ok a b c r) : ∃ n, -2400 ≤ n ∧ n ≤ 2400 ∧ Oct a b c r n ∧ Ev (fun k => impl_OctavesIn.f k a b c r) n := by
  obtain ⟨o1, o2, o3, o4⟩ := id o
  have ht := tdiv_small (x := a * 1000000 + b * 1584963 + c * 2321928) (y := 1000000 * r) (by omega) (by omega)
  generalize he : (a * 1000000 + b * 1584963 + c * 2321928).tdiv (1000000 * r) = n at ht
  obtain ⟨m, m1, m2, m3, m4⟩ := ioct_l0 o (n + 2400).toNat n (by omega) (by omega)
  obtain ⟨q, q1, q2, q3, q4⟩ := ioct_l1 o (2401 - m).toNat m (by omega) (by omega) m3
  refine ⟨q, by omega, q2, q3, ?_⟩
  unfold impl_OctavesIn.f
  refine Ev_bindE (fun k => iok_eq ..) (Ev.congr (fun k => ?_) (m4 q q4))
  rw [if_pos (by simpa using o), wrap_id (n := 1000000 * r) (by omega) (by omega), if_neg (by omega), wrap_id (n := a * 1000000) (by omega) (by omega), wrap_id (n := b * 1584963) (by omega) (by omega), wrap_id (n := c * 2321928) (by omega) (by omega),
    wrap_id (n := a * 1000000 + b * 1584963) (by omega) (by omega), wrap_id (n := a * 1000000 + b * 1584963 + c * 2321928) (by omega) (by omega), he, wrap_id (n := n) (by omega) (by omega)]
theorem ioct_no {a b c r : Int} (o : ¬ Ok a b c r) : Ev (fun k => impl_OctavesIn.f k a b c r) 0 := by
  unfold impl_OctavesIn.f
  exact Ev_bindE (fun k => iok_eq ..) (Ev_eq fun k => by rw [if_neg (by simpa using o)])
theorem soct_l1 {a b c r : Int} (o : Ok a b c r) : ∀ (d : Nat) (n : Int), n = -2400 + d → n ≤ 2401 → sg (a - (n + 1) * r) b c < 0 → ∃ m, m ≤ n ∧ -2400 ≤ m ∧ Oct a b c r m ∧ Ev (fun k => spec_OctavesIn.l1 k n a b c r) m := by
  obtain ⟨o1, o2, o3, o4⟩ := id o
  intro d
  induction d with
  | zero =>
    intro n hn hu hq
    have b1 := io_bd (n := n) (r := r) (by omega) o1
    have hs := ssign_ev (a := a - n * r) (b := b) (c := c) (by omega) (by omega) (by omega)
    have hp := ioct_low o (n := n) (by omega)
    refine ⟨n, by omega, by omega, ⟨hp, hq⟩, Ev_round (fun k => (spec_l04Sign.f k (a - n * r) b c).bind fun t => (if t < 0 then (spec_OctavesIn.l1 k (n - 1) a b c r) else (some n))) (fun k => ?_) (Ev.bind hs (Ev_eq fun k => if_neg (by omega)))⟩
    simp only [spec_OctavesIn.l1]
    rw [wrap_id (n := n * r) (by omega) (by omega), wrap_id (n := a - n * r) (by omega) (by omega), wrap_id (n := n - 1) (by omega) (by omega)]
  | succ d ih =>
    intro n hn hu hq
    have b1 := io_bd (n := n) (r := r) (by omega) o1
    have hs := ssign_ev (a := a - n * r) (b := b) (c := c) (by omega) (by omega) (by omega)
    by_cases hp : sg (a - n * r) b c < 0
    · obtain ⟨m, m1, m2, m3, m4⟩ := ih (n - 1) (by omega) (by omega) (by rw [show n - 1 + 1 = n from by omega]; exact hp)
      refine ⟨m, by omega, m2, m3, Ev_round (fun k => (spec_l04Sign.f k (a - n * r) b c).bind fun t => (if t < 0 then (spec_OctavesIn.l1 k (n - 1) a b c r) else (some n))) (fun k => ?_) (Ev.bind hs (Ev.congr (fun k => if_pos hp) m4))⟩
      simp only [spec_OctavesIn.l1]
      rw [wrap_id (n := n * r) (by omega) (by omega), wrap_id (n := a - n * r) (by omega) (by omega), wrap_id (n := n - 1) (by omega) (by omega)]
    · refine ⟨n, by omega, by omega, ⟨by omega, hq⟩, Ev_round (fun k => (spec_l04Sign.f k (a - n * r) b c).bind fun t => (if t < 0 then (spec_OctavesIn.l1 k (n - 1) a b c r) else (some n))) (fun k => ?_) (Ev.bind hs (Ev_eq fun k => if_neg hp))⟩
      simp only [spec_OctavesIn.l1]
      rw [wrap_id (n := n * r) (by omega) (by omega), wrap_id (n := a - n * r) (by omega) (by omega), wrap_id (n := n - 1) (by omega) (by omega)]
theorem soct_l0 {a b c r : Int} (o : Ok a b c r) : ∀ (d : Nat) (n : Int), n + d = 2401 → -2400 ≤ n → ∃ m, n ≤ m ∧ m ≤ 2401 ∧ sg (a - (m + 1) * r) b c < 0 ∧ ∀ res, Ev (fun k => spec_OctavesIn.l1 k m a b c r) res → Ev (fun k => spec_OctavesIn.l0 k n a b c r) res := by
  obtain ⟨o1, o2, o3, o4⟩ := id o
  intro d
  induction d with
  | zero =>
    intro n hn hl
    have b1 := io_bd (n := n + 1) (r := r) (by omega) o1
    have hs := ssign_ev (a := a - (n + 1) * r) (b := b) (c := c) (by omega) (by omega) (by omega)
    have hp := ioct_high o (n := n + 1) (by omega)
    refine ⟨n, by omega, by omega, hp, fun res hres => Ev_round (fun k => (spec_l04Sign.f k (a - (n + 1) * r) b c).bind fun t => (if t ≥ 0 then (spec_OctavesIn.l0 k (n + 1) a b c r) else (spec_OctavesIn.l1 k n a b c r))) (fun k => ?_) (Ev.bind hs (Ev.congr (fun k => if_neg (by omega)) hres))⟩
    simp only [spec_OctavesIn.l0]
    rw [wrap_id (n := n + 1) (by omega) (by omega), wrap_id (n := (n + 1) * r) (by omega) (by omega), wrap_id (n := a - (n + 1) * r) (by omega) (by omega)]
  | succ d ih =>
    intro n hn hl
    have b1 := io_bd (n := n + 1) (r := r) (by omega) o1
    have hs := ssign_ev (a := a - (n + 1) * r) (b := b) (c := c) (by omega) (by omega) (by omega)
    by_cases hp : sg (a - (n + 1) * r) b c ≥ 0
    · obtain ⟨m, m1, m2, m3, m4⟩ := ih (n + 1) (by omega) (by omega)
      refine ⟨m, by omega, m2, m3, fun res hres => Ev_round (fun k => (spec_l04Sign.f k (a - (n + 1) * r) b c).bind fun t => (if t ≥ 0 then (spec_OctavesIn.l0 k (n + 1) a b c r) else (spec_OctavesIn.l1 k n a b c r))) (fun k => ?_) (Ev.bind hs (Ev.congr (fun k => if_pos hp) (m4 res hres)))⟩
      simp only [spec_OctavesIn.l0]
      rw [wrap_id (n := n + 1) (by omega) (by omega), wrap_id (n := (n + 1) * r) (by omega) (by omega), wrap_id (n := a - (n + 1) * r) (by omega) (by omega)]
    · refine ⟨n, by omega, by omega, by omega, fun res hres => Ev_round (fun k => (spec_l04Sign.f k (a - (n + 1) * r) b c).bind fun t => (if t ≥ 0 then (spec_OctavesIn.l0 k (n + 1) a b c r) else (spec_OctavesIn.l1 k n a b c r))) (fun k => ?_) (Ev.bind hs (Ev.congr (fun k => if_neg hp) hres))⟩
      simp only [spec_OctavesIn.l0]
      rw [wrap_id (n := n + 1) (by omega) (by omega), wrap_id (n := (n + 1) * r) (by omega) (by omega), wrap_id (n := a - (n + 1) * r) (by omega) (by omega)]
theorem soct_ev {a b c r : Int} (o : Ok a b c r) : ∃ n, Oct a b c r n ∧ Ev (fun k => spec_OctavesIn.f k a b c r) n := by
  obtain ⟨m, m1, m2, m3, m4⟩ := soct_l0 o 2401 0 (by omega) (by omega)
  obtain ⟨q, q1, q2, q3, q4⟩ := soct_l1 o (m + 2400).toNat m (by omega) (by omega) m3
  refine ⟨q, q3, ?_⟩
  unfold spec_OctavesIn.f
  exact Ev_bindE (fun k => sok_eq ..) (Ev.congr (fun k => by rw [if_pos (by simpa using o)]) (m4 q q4))
theorem soct_no {a b c r : Int} (o : ¬ Ok a b c r) : Ev (fun k => spec_OctavesIn.f k a b c r) 0 := by
  unfold spec_OctavesIn.f
  exact Ev_bindE (fun k => sok_eq ..) (Ev_eq fun k => by rw [if_neg (by simpa using o)])
theorem iwithin_ev {a b c r : Int} (o : Ok a b c r) : ∃ n, -2400 ≤ n ∧ n ≤ 2400 ∧ Oct a b c r n ∧ Ev (fun k => impl_WithinOctave.f k a b c r) (chk (simp4 (a - n * r) b c r)) := by
  obtain ⟨n, n1, n2, hn, h⟩ := ioct_ev o
  obtain ⟨o1, o2, o3, o4⟩ := id o
  have b1 := io_bd (n := n) (r := r) (by omega) o1
  refine ⟨n, n1, n2, hn, ?_⟩
  unfold impl_WithinOctave.f
  refine Ev_bindE (fun k => iok_eq ..) (Ev.congr (fun k => by rw [if_pos (by simpa using o)]) (Ev.bind h ?_))
  rw [wrap_id (n := n * r) (by omega) (by omega), wrap_id (n := a - n * r) (by omega) (by omega)]
  exact Ev.bind (iok_ev2 (by omega) (by omega) (by omega) (by omega) (by omega)) (Ev_eq fun k => rfl)
theorem iwithin_no {a b c r : Int} (o : ¬ Ok a b c r) : Ev (fun k => impl_WithinOctave.f k a b c r) (0, 0, 0, 0, false) := by
  unfold impl_WithinOctave.f
  exact Ev_bindE (fun k => iok_eq ..) (Ev_eq fun k => by rw [if_neg (by simpa using o)])
theorem swithin_ev {a b c r : Int} (o : Ok a b c r) : ∃ n, Oct a b c r n ∧ Ev (fun k => spec_WithinOctave.f k a b c r) (chk (simp4 (a - n * r) b c r)) := by
  obtain ⟨n, n1, n2, hn', _⟩ := ioct_ev o
  obtain ⟨n', hn, h⟩ := soct_ev o
  obtain rfl := Oct_uniq o.pos hn hn'
  obtain ⟨o1, o2, o3, o4⟩ := id o
  have b1 := io_bd (n := n') (r := r) (by omega) o1
  refine ⟨n', hn, ?_⟩
  unfold spec_WithinOctave.f
  refine Ev_bindE (fun k => sok_eq ..) (Ev.congr (fun k => by rw [if_pos (by simpa using o)]) (Ev.bind h ?_))
  rw [wrap_id (n := n' * r) (by omega) (by omega), wrap_id (n := a - n' * r) (by omega) (by omega)]
  exact Ev.bind (sok_ev2 (by omega) (by omega) (by omega) (by omega) (by omega)) (Ev_eq fun k => rfl)
theorem swithin_no {a b c r : Int} (o : ¬ Ok a b c r) : Ev (fun k => spec_WithinOctave.f k a b c r) (0, 0, 0, 0, false) := by
  unfold spec_WithinOctave.f
  exact Ev_bindE (fun k => sok_eq ..) (Ev_eq fun k => by rw [if_neg (by simpa using o)])
theorem within_both (a b c r : Int) : ∃ v : Ivb, Ev (fun k => spec_WithinOctave.f k a b c r) v ∧ Ev (fun k => impl_WithinOctave.f k a b c r) v := by
  by_cases o : Ok a b c r
  · obtain ⟨n, _, _, hn, h1⟩ := iwithin_ev o
    obtain ⟨m, hm, h2⟩ := swithin_ev o
    obtain rfl := Oct_uniq o.pos hm hn
    exact ⟨_, h2, h1⟩
  · exact ⟨_, swithin_no o, iwithin_no o⟩
theorem ififths_some {n : Int} (h : -100 ≤ n ∧ n ≤ 100) {v : Ivb} (hv : Ev (fun k => impl_WithinOctave.f k (-n) n 0 1) v) : Ev (fun k => impl_Fifths.f k n) v := by
  unfold impl_Fifths.f
  refine Ev_bindE (fun k => within_eq ..) (Ev.congr (fun k => by rw [if_pos (by simpa using h)]) (Ev_bindE (fun k => ipure_eq ..) ?_))
  rw [wrap_id (n := -n) (by omega) (by omega), if_pos ⟨by omega, by omega, by omega, by omega⟩]
  exact Ev.bind hv (Ev_eq fun k => rfl)
theorem ififths_no {n : Int} (h : ¬ (-100 ≤ n ∧ n ≤ 100)) : Ev (fun k => impl_Fifths.f k n) (0, 0, 0, 0, false) := by
  unfold impl_Fifths.f
  exact Ev_bindE (fun k => within_eq ..) (Ev_eq fun k => by rw [if_neg (by simpa using h)])
/-! The chain of fifths: what Fifths answers, how two fifths compare; what ChainOf hands back. -/
open Srt (fifE keyE ltE chainN sortedN ordn)
def tE (n : Int) : S25 := toS (fifE n)
theorem oct_tab : ∀ i : Fin 61, 0 ≤ sg (fifE ((i.val : Int) - 30)).1 ((i.val : Int) - 30) 0 ∧ sg ((fifE ((i.val : Int) - 30)).1 - 1) ((i.val : Int) - 30) 0 < 0 := by decide +kernel
theorem chk_tab : ∀ i : Fin 61, chk (simp4 (fifE ((i.val : Int) - 30)).1 ((i.val : Int) - 30) 0 1) = ((fifE ((i.val : Int) - 30)).1, (i.val : Int) - 30, 0, 1, true) := by decide +kernel
theorem cmp_tab : ∀ i j : Fin 61, decide (cmpL (fifE ((i.val : Int) - 30)).1 ((i.val : Int) - 30) 0 1 (fifE ((j.val : Int) - 30)).1 ((j.val : Int) - 30) 0 1 < 0) = ltE (fifE ((i.val : Int) - 30)) (fifE ((j.val : Int) - 30)) := by decide +kernel
theorem cmp_tab2 : ∀ i j : Fin 61, decide (cmpL (fifE ((i.val : Int) - 30)).1 ((i.val : Int) - 30) 0 1 (fifE ((j.val : Int) - 30)).1 ((j.val : Int) - 30) 0 1 > 0) = ltE (fifE ((j.val : Int) - 30)) (fifE ((i.val : Int) - 30)) := by decide +kernel
theorem fin61 {n : Int} (h : -30 ≤ n ∧ n ≤ 30) : ∃ i : Fin 61, (i.val : Int) - 30 = n := ⟨⟨(n + 30).toNat, by omega⟩, by simp; omega⟩
theorem fif_both {n : Int} (h : -30 ≤ n ∧ n ≤ 30) : Ev (fun k => spec_Fifths.f k n) ((fifE n).1, n, 0, 1, true) ∧ Ev (fun k => impl_Fifths.f k n) ((fifE n).1, n, 0, 1, true) := by
  obtain ⟨i, rfl⟩ := fin61 h
  have e := chk_tab i
  have o := oct_tab i
  generalize (i.val : Int) - 30 = n at *
  have ho : Oct (-n) n 0 1 (-n - (fifE n).1) := ⟨by rw [show -n - (-n - (fifE n).1) * 1 = (fifE n).1 by omega]; exact o.1, by rw [show -n - (-n - (fifE n).1 + 1) * 1 = (fifE n).1 - 1 by omega]; exact o.2⟩
  have ok : Ok (-n) n 0 1 := ⟨by omega, by omega, by omega, by omega⟩
  obtain ⟨m, _, _, hm, h1⟩ := iwithin_ev ok
  obtain ⟨m', hm', h2⟩ := swithin_ev ok
  obtain rfl := Oct_uniq ok.pos hm ho
  obtain rfl := Oct_uniq ok.pos hm' ho
  rw [show -n - (-n - (fifE n).1) * 1 = (fifE n).1 by omega, e] at h1 h2
  refine ⟨?_, ififths_some ⟨by omega, by omega⟩ h1⟩
  unfold spec_Fifths.f
  refine Ev_bindE (fun k => l01In_eq ..) (Ev.congr (fun k => by rw [if_pos (by simp; omega)]) ?_)
  rw [wrap_id (n := -n) (by omega) (by omega)]
  exact Ev.bind h2 (Ev_eq fun k => rfl)
theorem all_ev {p : Nat → Int → Prop} : ∀ (l : List Int), (∀ n ∈ l, ∃ K, ∀ k, K ≤ k → p k n) → ∃ K, ∀ k, K ≤ k → ∀ n ∈ l, p k n
  | [], _ => ⟨0, fun k _ n hn => by simp at hn⟩
  | a :: t, h => by
    obtain ⟨K1, h1⟩ := h a (by simp)
    obtain ⟨K2, h2⟩ := all_ev t (fun n hn => h n (by simp [hn]))
    refine ⟨max K1 K2, fun k hk n hn => ?_⟩
    rcases List.mem_cons.1 hn with rfl | hn
    · exact h1 k (by omega)
    · exact h2 k (by omega) n hn
theorem ichain_in {low high : Int} (h : low ≤ high ∧ -30 ≤ low ∧ high ≤ 30) : Ev (fun k => impl_ChainOf.f k low high) ((sortedN low high).map tE) := by
  have hr : ∀ n ∈ chainN low high, -30 ≤ n ∧ n ≤ 30 := fun n hn => by have := Srt.chain_mem.1 hn; omega
  obtain ⟨K1, h1⟩ := all_ev (p := FifOk) (chainN low high) (fun n hn => (fif_both (hr n hn)).2)
  obtain ⟨K2, h2⟩ := all_ev (p := fun k n => ∀ m ∈ chainN low high, CmpOk k n m) (chainN low high) (fun n hn => all_ev (p := fun k m => CmpOk k n m) (chainN low high) (fun m hm => by
    obtain ⟨K, hK⟩ := icmp_ev (fifE n).1 n 0 1 (fifE m).1 m 0 1
    refine ⟨K, fun k hk => ?_⟩
    obtain ⟨i, rfl⟩ := fin61 (hr n hn)
    obtain ⟨j, rfl⟩ := fin61 (hr m hm)
    have e : impl_CompareIntervals.f k _ _ _ _ _ _ _ _ = some _ := hK k hk
    unfold CmpOk
    rw [e, Option.map_some, cmp_tab i j]))
  refine ⟨max K1 K2, fun k hk => ?_⟩
  show impl_ChainOf.f k low high = _
  unfold impl_ChainOf.f
  rw [if_pos h, if_pos ⟨fun n hn => h1 k (by omega) n hn, fun n hn => h2 k (by omega) n hn⟩]
  rfl
theorem ichain_out {low high : Int} (h : ¬ (low ≤ high ∧ -30 ≤ low ∧ high ≤ 30)) : Ev (fun k => impl_ChainOf.f k low high) [] :=
  Ev_eq fun k => by unfold impl_ChainOf.f; rw [if_neg h]
/-! The reference's chain: each fifth is put in its place. -/
theorem rd25_get {L : List S25} {m : Nat} {p : S25} (h : L[m]? = some p) : rd_T25 L (m : Int) = p := by
  simp [rd_T25, List.getD, h]
theorem l1_zero {x1 x6 : Int} {y : S25} {L : List S25} {res : List S25} (hL : 0 < L.length) (h : Ev (fun k => spec_ChainOf.l0 k x1 (L.set 0 y) (wrap64 (x6 + 1))) res) : Ev (fun k => spec_ChainOf.l1 k x1 L x6 0 y.f0 y.f1 y.f2 y.f3) res := by
  refine Ev_round _ (fun k => ?_) h
  rw [spec_ChainOf.l1, if_neg (by omega), if_pos (by omega), if_pos (by omega)]
  rfl
theorem l1_pos {x1 x6 : Int} {y p : S25} {L : List S25} {m : Nat} {res : List S25} (hL : m + 1 < L.length) (hb : L.length < 1000) (hp : L[m]? = some p)
    (h : Ev (fun k => if cmpL p.f0 p.f1 p.f2 p.f3 y.f0 y.f1 y.f2 y.f3 > 0 then spec_ChainOf.l1 k x1 (L.set (m + 1) p) x6 (m : Int) y.f0 y.f1 y.f2 y.f3 else spec_ChainOf.l0 k x1 (L.set (m + 1) y) (wrap64 (x6 + 1))) res) :
    Ev (fun k => spec_ChainOf.l1 k x1 L x6 ((m + 1 : Nat) : Int) y.f0 y.f1 y.f2 y.f3) res := by
  refine Ev_round (fun k => (spec_CompareIntervals.f k p.f0 p.f1 p.f2 p.f3 y.f0 y.f1 y.f2 y.f3).bind fun t => (if t > 0 then spec_ChainOf.l1 k x1 (L.set (m + 1) p) x6 (m : Int) y.f0 y.f1 y.f2 y.f3 else spec_ChainOf.l0 k x1 (L.set (m + 1) y) (wrap64 (x6 + 1)))) (fun k => ?_) (Ev.bind (scmp_ev ..) h)
  have e : wrap64 (((m + 1 : Nat) : Int) - 1) = (m : Int) := by rw [wrap_id (by omega) (by omega)]; omega
  rw [spec_ChainOf.l1, if_pos (by omega), e, if_pos (by omega), if_pos (by omega), rd25_get hp]
  congr 1; funext t
  by_cases c : t > 0
  · rw [if_pos c, if_pos c, if_pos (by omega), if_pos (by omega)]
    rfl
  · rw [if_neg c, if_neg c, if_pos (by omega), if_pos (by omega)]
    rfl
theorem ins_loop {x1 x6 x : Int} (hx : -30 ≤ x ∧ x ≤ 30) {P1 : List Int} (h1 : ∀ p ∈ P1, (-30 ≤ p ∧ p ≤ 30) ∧ ltE (fifE x) (fifE p) = false) : ∀ (d : Nat) (P2 : List Int), P2.length = d → (∀ p ∈ P2, (-30 ≤ p ∧ p ≤ 30) ∧ ltE (fifE x) (fifE p) = true) →
    ∀ (q : S25) (Q : List S25) (res : List S25), P1.length + P2.length + Q.length < 900 → Ev (fun k => spec_ChainOf.l0 k x1 (P1.map tE ++ tE x :: (P2.map tE ++ Q)) (wrap64 (x6 + 1))) res →
    Ev (fun k => spec_ChainOf.l1 k x1 ((P1 ++ P2).map tE ++ q :: Q) x6 (((P1 ++ P2).length : Nat) : Int) (tE x).f0 (tE x).f1 (tE x).f2 (tE x).f3) res := by
  have cmp : ∀ p, (-30 ≤ p ∧ p ≤ 30) → decide (cmpL (tE p).f0 (tE p).f1 (tE p).f2 (tE p).f3 (tE x).f0 (tE x).f1 (tE x).f2 (tE x).f3 > 0) = ltE (fifE x) (fifE p) := fun p hp => by
    obtain ⟨i, rfl⟩ := fin61 hp
    obtain ⟨j, rfl⟩ := fin61 hx
    exact cmp_tab2 i j
  intro d
  induction d with
  | zero =>
    intro P2 h2 _ q Q res hb h
    obtain rfl := List.length_eq_zero_iff.1 h2
    rcases List.eq_nil_or_concat P1 with rfl | ⟨P, p, rfl⟩
    · exact l1_zero (L := q :: Q) (y := tE x) (by simp) h
    · rw [List.append_nil, List.concat_eq_append] at *
      have hp := h1 p (by simp)
      rw [show ((P ++ [p]).length : Nat) = P.length + 1 by simp]
      refine l1_pos (p := tE p) (y := tE x) (by simp) (by simp at *; omega) (by simp [List.getElem?_append]) ?_
      have c : ¬ cmpL (tE p).f0 (tE p).f1 (tE p).f2 (tE p).f3 (tE x).f0 (tE x).f1 (tE x).f2 (tE x).f3 > 0 := by
        have := cmp p hp.1; rw [hp.2] at this; exact of_decide_eq_false this
      refine Ev.congr (fun k => if_neg c) ?_
      have e : ((P ++ [p]).map tE ++ q :: Q).set (P.length + 1) (tE x) = (P ++ [p]).map tE ++ tE x :: ([].map tE ++ Q) := by
        rw [List.set_append_right _ _ (by simp)]; simp
      rw [e]; exact h
  | succ d ih =>
    intro P2 h2 hg q Q res hb h
    rcases List.eq_nil_or_concat P2 with rfl | ⟨P, p, rfl⟩
    · simp at h2
    · rw [List.concat_eq_append] at *
      have hp := hg p (by simp)
      rw [show ((P1 ++ (P ++ [p])).length : Nat) = (P1 ++ P).length + 1 by simp; omega]
      refine l1_pos (p := tE p) (y := tE x) (by simp; omega) (by simp at *; omega) (by simp [List.getElem?_append]) ?_
      have c : cmpL (tE p).f0 (tE p).f1 (tE p).f2 (tE p).f3 (tE x).f0 (tE x).f1 (tE x).f2 (tE x).f3 > 0 := by
        have := cmp p hp.1; rw [hp.2] at this; exact of_decide_eq_true this
      refine Ev.congr (fun k => if_pos c) ?_
      have e : ((P1 ++ (P ++ [p])).map tE ++ q :: Q).set ((P1 ++ P).length + 1) (tE p) = (P1 ++ P).map tE ++ tE p :: (tE p :: Q) := by
        rw [List.set_append_right _ _ (by simp; omega)]
        simp only [List.length_append, List.length_map, List.length_cons, List.length_nil, Nat.sub_self, List.set_cons_zero, List.map_append, List.map_cons, List.map_nil, List.append_assoc, List.cons_append, List.nil_append, Nat.add_assoc]
      rw [e]
      refine ih P (by simpa using h2) (fun y hy => hg y (by simp [hy])) (tE p) (tE p :: Q) res (by simp at *; omega) ?_
      have e2 : P1.map tE ++ tE x :: ((P ++ [p]).map tE ++ Q) = P1.map tE ++ tE x :: (P.map tE ++ tE p :: Q) := by simp
      rw [← e2]; exact h
theorem ordn_pair : ordn.Pairwise (fun a b => ltE (fifE a) (fifE b) = true) := by decide +kernel
theorem ordn_nodup : ordn.Pairwise (fun a b => a ≠ b) := by decide +kernel
theorem split_at (low x : Int) (hl : low ≤ x) (hx : -30 ≤ x ∧ x ≤ 30) (hlo : -30 ≤ low) : ∃ P1 P2 : List Int, sortedN low x = P1 ++ x :: P2 ∧ sortedN low (x - 1) = P1 ++ P2 ∧ (∀ p ∈ P1, (-30 ≤ p ∧ p ≤ 30) ∧ ltE (fifE x) (fifE p) = false) ∧ (∀ p ∈ P2, (-30 ≤ p ∧ p ≤ 30) ∧ ltE (fifE x) (fifE p) = true) := by
  obtain ⟨A, B, e⟩ := List.append_of_mem (Srt.ordn_mem.2 hx)
  have pr := ordn_pair
  have nd := ordn_nodup
  rw [e] at pr nd
  have hA : ∀ p ∈ A, ltE (fifE p) (fifE x) = true ∧ p ≠ x := fun p hp => ⟨(List.pairwise_append.1 pr).2.2 p hp x (by simp), (List.pairwise_append.1 nd).2.2 p hp x (by simp)⟩
  have hB : ∀ p ∈ B, ltE (fifE x) (fifE p) = true ∧ x ≠ p := fun p hp => ⟨(List.pairwise_cons.1 (List.pairwise_append.1 pr).2.1).1 p hp, (List.pairwise_cons.1 (List.pairwise_append.1 nd).2.1).1 p hp⟩
  refine ⟨A.filter fun n => decide (low ≤ n ∧ n ≤ x), B.filter fun n => decide (low ≤ n ∧ n ≤ x), ?_, ?_, ?_, ?_⟩
  · unfold Srt.sortedN
    rw [e, List.filter_append, List.filter_cons_of_pos (by simp; exact hl)]
  · unfold Srt.sortedN
    rw [e, List.filter_append, List.filter_cons_of_neg (by simp; omega)]
    congr 1
    · exact List.filter_congr fun p hp => by have := (hA p hp).2; rw [decide_eq_decide]; omega
    · exact List.filter_congr fun p hp => by have := (hB p hp).2; rw [decide_eq_decide]; omega
  · intro p hp
    obtain ⟨hp, hr⟩ := List.mem_filter.1 hp
    refine ⟨Srt.ordn_mem.1 (by rw [e]; simp [hp]), ?_⟩
    have := (hA p hp).1
    unfold Srt.ltE at this ⊢
    have := of_decide_eq_true this
    exact decide_eq_false (by omega)
  · intro p hp
    obtain ⟨hp, hr⟩ := List.mem_filter.1 hp
    exact ⟨Srt.ordn_mem.1 (by rw [e]; simp [hp]), (hB p hp).1⟩
theorem sorted_len (low x : Int) : (sortedN low x).length ≤ 61 := List.length_filter_le _ _
theorem schain_loop (low high : Int) (hlo : -30 ≤ low) (hhi : high ≤ 30) : ∀ (d : Nat) (x6 : Int), x6 + d = high + 1 → low ≤ x6 → Ev (fun k => spec_ChainOf.l0 k high ((sortedN low (x6 - 1)).map tE) x6) ((sortedN low high).map tE) := by
  intro d
  induction d with
  | zero =>
    intro x6 hd hl
    refine Ev_at1 fun k => ?_
    rw [spec_ChainOf.l0, if_neg (by omega), show x6 - 1 = high by omega]
  | succ d ih =>
    intro x6 hd hl
    have hx : -30 ≤ x6 ∧ x6 ≤ 30 := by omega
    obtain ⟨P1, P2, e1, e2, h1, h2⟩ := split_at low x6 hl hx hlo
    have hlen := sorted_len low (x6 - 1)
    have ih' := ih (x6 + 1) (by omega) (by omega)
    rw [show x6 + 1 - 1 = x6 by omega, e1] at ih'
    rw [e2] at hlen ⊢
    rw [List.length_append] at hlen
    have hi := ins_loop (x1 := high) (x6 := x6) hx h1 P2.length P2 rfl h2 (tE x6) [] ((sortedN low high).map tE) (by simp; omega) (by
      rw [wrap_id (by omega) (by omega), List.append_nil]
      simpa using ih')
    refine Ev_round (fun k => (spec_Fifths.f k x6).bind fun bt => (if ((P1 ++ P2).map tE).length < 4398046511104 then (spec_ChainOf.l1 k high ((P1 ++ P2).map tE ++ [(⟨bt.1, bt.2.1, bt.2.2.1, bt.2.2.2.1⟩ : S25)]) x6 (((P1 ++ P2).map tE).length : Int) bt.1 bt.2.1 bt.2.2.1 bt.2.2.2.1) else none)) (fun k => by rw [spec_ChainOf.l0, if_pos (by omega)]) (Ev.bind (fif_both hx).1 (Ev.congr (fun k => if_pos (by simp; omega)) ?_))
    rw [List.length_map]
    exact hi
theorem schain_in {low high : Int} (h : low ≤ high ∧ -30 ≤ low ∧ high ≤ 30) : Ev (fun k => spec_ChainOf.f k low high) ((sortedN low high).map tE) := by
  have hl := schain_loop low high h.2.1 h.2.2 (high + 1 - low).toNat low (by omega) (Int.le_refl _)
  rw [show sortedN low (low - 1) = [] from List.filter_eq_nil_iff.2 (fun n _ => by simp; omega)] at hl
  unfold spec_ChainOf.f
  refine Ev_bindE (fun k => rfl) (Ev_bindE (fun k => l01In_eq ..) (Ev.congr (fun k => if_pos (by simp; omega)) ?_))
  refine Ev_round _ (fun k => ?_) hl
  rw [spec_ChainOf.j0, if_neg (by simp; omega)]
  rfl
theorem schain_out {low high : Int} (h : ¬ (low ≤ high ∧ -30 ≤ low ∧ high ≤ 30)) : Ev (fun k => spec_ChainOf.f k low high) [] := by
  unfold spec_ChainOf.f
  refine Ev_bindE (fun k => rfl) (Ev_bindE (fun k => l01In_eq ..) ?_)
  by_cases c : -30 ≤ low ∧ low ≤ high
  · refine Ev.congr (fun k => if_pos (by simpa using c)) (Ev_at1 fun k => ?_)
    rw [spec_ChainOf.j0, if_pos (by simp; omega)]
  · refine Ev.congr (fun k => if_neg (by simpa using c)) (Ev_at1 fun k => ?_)
    rw [spec_ChainOf.j0, if_pos rfl]
theorem eq_loop (l : List S25) (hl : l.length ≤ 1000) : ∀ (d i : Nat), i + d = l.length → Ev (fun k => laws_eqIntervalS.l0 k l l (i : Int)) true := by
  intro d
  induction d with
  | zero =>
    intro i hi
    refine Ev_at1 fun k => ?_
    simp only [laws_eqIntervalS.l0]
    rw [if_neg (by omega)]
  | succ d ih =>
    intro i hi
    refine Ev_round _ (fun k => ?_) (ih (i + 1) (by omega))
    simp only [laws_eqIntervalS.l0, laws_eqInterval.f, if_true, Option.bind_some]
    rw [if_pos (by omega), if_pos (by omega), if_pos (by omega), wrap_id (by omega) (by omega)]
    rfl
theorem eq_self (l : List S25) (hl : l.length ≤ 1000) : Ev (fun k => laws_eqIntervalS.f k l l) true := by
  unfold laws_eqIntervalS.f
  exact Ev.congr (fun k => if_pos rfl) (eq_loop l hl l.length 0 (by simp))
/-- The marks that a list is filled with. -/
def mk4 (j : Nat) : S25 := ⟨1 + 4 * (j : Int), 2 + 4 * (j : Int), 3 + 4 * (j : Int), 4 + 4 * (j : Int)⟩
theorem rd25_set {L : List S25} {i : Nat} (h : i < L.length) (v : S25) : rd_T25 (L.set i v) (i : Int) = v := rd25_get (by simp [h])
theorem mark_loop : ∀ (d i : Nat) (L : List S25), i + d = L.length → L.length ≤ 1000 → (∀ j, j < i → L[j]? = some (mk4 j)) →
    Ev (fun k => laws_markIntervalS.l0 k L (1 + 4 * (i : Int)) (i : Int)) (1 + 4 * (L.length : Int), (List.range L.length).map mk4) := by
  intro d
  induction d with
  | zero =>
    intro i L hi hl hj
    refine Ev_at1 fun k => ?_
    rw [laws_markIntervalS.l0, if_neg (by omega)]
    have e : L = (List.range L.length).map mk4 := List.ext_getElem? fun j => by
      by_cases h : j < L.length
      · rw [hj j (by omega)]; simp [h]
      · rw [List.getElem?_eq_none (by omega), List.getElem?_eq_none (by simp; omega)]
    rw [← e, show i = L.length by omega]
  | succ d ih =>
    intro i L hi hl hj
    have hil : i < L.length := by omega
    have he := ih (i + 1) (L.set i (mk4 i)) (by simp; omega) (by simpa using hl) (fun j h => by
      rw [List.getElem?_set]
      by_cases e : i = j
      · subst e; rw [if_pos rfl, if_pos (by omega)]
      · rw [if_neg e]; exact hj j (by omega))
    rw [List.length_set] at he
    refine Ev_round _ (fun k => ?_) he
    rw [laws_markIntervalS.l0, if_pos (by omega), if_pos (by omega)]
    simp only [Option.bind_some, Int.toNat_natCast, rd25_set hil, List.set_set]
    rw [wrap_id (n := 1 + 4 * (i : Int) + 1) (by omega) (by omega), wrap_id (n := 1 + 4 * (i : Int) + 1 + 1) (by omega) (by omega), wrap_id (n := 1 + 4 * (i : Int) + 1 + 1 + 1) (by omega) (by omega), wrap_id (n := 1 + 4 * (i : Int) + 1 + 1 + 1 + 1) (by omega) (by omega), wrap_id (n := (i : Int) + 1) (by omega) (by omega)]
    congr 1
    · congr 1
      unfold mk4
      congr 1 <;> omega
theorem held_loop (n : Nat) (hn : n ≤ 1000) : ∀ (d i : Nat), i + d = n → Ev (fun k => laws_heldIntervalS.l0 k ((List.range n).map mk4) (1 + 4 * (i : Int)) (i : Int)) (1 + 4 * (n : Int)) := by
  intro d
  induction d with
  | zero =>
    intro i hi
    refine Ev_at1 fun k => ?_
    rw [laws_heldIntervalS.l0, if_neg (by simp; omega), show i = n by omega]
  | succ d ih =>
    intro i hi
    have hr : rd_T25 ((List.range n).map mk4) (i : Int) = mk4 i := rd25_get (by simp [show i < n by omega])
    refine Ev_round _ (fun k => ?_) (ih (i + 1) (by omega))
    rw [laws_heldIntervalS.l0, if_pos (by simp; omega), if_pos (by omega), hr]
    rw [wrap_id (n := 1 + 4 * (i : Int) + 1) (by omega) (by omega), wrap_id (n := 1 + 4 * (i : Int) + 1 + 1) (by omega) (by omega), wrap_id (n := 1 + 4 * (i : Int) + 1 + 1 + 1) (by omega) (by omega), wrap_id (n := 1 + 4 * (i : Int) + 1 + 1 + 1 + 1) (by omega) (by omega), wrap_id (n := (i : Int) + 1) (by omega) (by omega)]
    rw [if_pos (by simp [mk4]), if_pos (by simp [mk4]; omega), if_pos (by simp [mk4]; omega), if_pos (by simp [mk4]; omega)]
    congr 1
theorem law_of (a0 a1 : Int) (l : List S25) (hl : l.length ≤ 1000) (h1 : Ev (fun k => spec_ChainOf.f k a0 a1) l) (h2 : Ev (fun k => impl_ChainOf.f k a0 a1) l) : Ev (fun k => laws_FnExactChainOf.f k a0 a1) true := by
  unfold laws_FnExactChainOf.f
  have hm : Ev (fun k => laws_markIntervalS.f k l 1) (1 + 4 * (l.length : Int), (List.range l.length).map mk4) := mark_loop l.length 0 l (by omega) hl (fun j h => by omega)
  have hh : Ev (fun k => laws_heldIntervalS.f k ((List.range l.length).map mk4) 1) (1 + 4 * (l.length : Int)) := held_loop l.length hl l.length 0 (by omega)
  refine Ev.bind h1 (Ev.bind h2 (Ev.bind (eq_self l hl) (Ev.congr (fun k => if_pos rfl) (Ev.bind hm (Ev.bind hh (Ev.congr (fun k => by rw [if_neg (by omega), if_pos rfl]) (Ev.bind h2 (Ev.bind (eq_self l hl) (Ev.congr (fun k => if_pos rfl) (Ev.bind hh (Ev_eq fun k => ?_)))))))))))
  rw [if_neg (by omega), if_pos rfl]
theorem main : laws_FnExactChainOf.Pure := by
  intro a0 a1 _ _
  refine Ev.rounds ?_
  by_cases h : a0 ≤ a1 ∧ -30 ≤ a0 ∧ a1 ≤ 30
  · exact law_of a0 a1 _ (by rw [List.length_map]; have := sorted_len a0 a1; omega) (schain_in h) (ichain_in h)
  · exact law_of a0 a1 [] (by simp) (schain_out h) (ichain_out h)

end Go.Proofs.Ytfimodphnfejdaa.PureFnExactChainOf
