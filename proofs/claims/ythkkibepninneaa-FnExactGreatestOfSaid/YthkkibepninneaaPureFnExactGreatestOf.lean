/- The law FnExactGreatestOf returns true for all slices of intervals of four whole numbers of 64 bits. -/
import Derived.Test.YthkkibepninneaaQFnExactGreatestOfy2
import Derived.Test.YthkkibepninneaaM0
import Derived.Test.YthkkibepninneaaM1
import Derived.Test.YthkkibepninneaaM2
import Derived.Test.YthkkibepninneaaM3
namespace Go.Proofs.Ythkkibepninneaa.PureFnExactGreatestOf
open Go Go.RowKit Go.Proofs.Ythkkibepninneaa.PFnExactGreatestOf Go.Proofs.Ythkkibepninneaa.My Go.Proofs.YthkkibepninneaaW.PrintWords Go.Proofs.YthkkibepninneaaW.PrintLast Go.Proofs.YthkkibepninneaaW.PrintMore
set_option linter.unusedVariables false
set_option linter.unusedSimpArgs false
theorem within_eq (a b c : Int) : impl_within.f a b c = some (decide (b ≤ a ∧ a ≤ c)) := by
  unfold impl_within.f
  by_cases h : b ≤ a <;> simp [h]
theorem l01In_eq (a b c : Int) : spec_l01In.f a b c = some (decide (b ≤ a ∧ a ≤ c)) := by
  unfold spec_l01In.f
  by_cases h : b ≤ a <;> simp [h]
theorem iok_eq (a b c r : Int) : impl_IntervalOk.f a b c r = some (decide (Ok a b c r)) := by
  simp only [impl_IntervalOk.f, within_eq, Option.bind_some, Ok]
  by_cases h1 : 1 ≤ r ∧ r ≤ 12 <;> by_cases h2 : -400 ≤ a ∧ a ≤ 400 <;> by_cases h3 : -400 ≤ b ∧ b ≤ 400 <;> simp [h1, h2, h3]
theorem sok_eq (a b c r : Int) : spec_IntervalOk.f a b c r = some (decide (Ok a b c r)) := by
  simp only [spec_IntervalOk.f, l01In_eq, Option.bind_some, Ok]
  by_cases h1 : 1 ≤ r ∧ r ≤ 12 <;> by_cases h2 : -400 ≤ a ∧ a ≤ 400 <;> by_cases h3 : -400 ≤ b ∧ b ≤ 400 <;> simp [h1, h2, h3]
theorem sgcd_loop (n : Nat) : ∀ (a b : Int), b.natAbs < n → 0 ≤ a → 0 ≤ b → Ev (fun k => spec_l03Gcd.l0 k a b) ((Int.gcd a b : Nat) : Int) := by
  induction n with
  | zero => intro a b h; omega
  | succ n ih =>
    intro a b h ha hb
    by_cases h0 : b = 0
    · refine Ev_at1 fun k => ?_
      simp only [spec_l03Gcd.l0]
      rw [if_neg (by omega), h0, Int.gcd_zero_right]
      congr 1; omega
    · have h1 := tmod_lt a b h0
      rw [← gcd_step a b]
      refine Ev_round _ (fun k => ?_) (ih b (a.tmod b) (by omega) hb (Int.tmod_nonneg _ ha))
      simp only [spec_l03Gcd.l0]
      rw [if_pos (by omega), if_neg h0]
theorem mx_abs (a : Int) (ha : a.natAbs ≤ 1000000000) : mx a (wrap64 (-a)) = ((a.natAbs : Nat) : Int) := by
  rw [wrap_id (by omega) (by omega)]; unfold mx; split <;> omega
theorem sgcd_ev (a b : Int) (ha : a.natAbs ≤ 1000000000) (hb : b.natAbs ≤ 1000000000) : Ev (fun k => spec_l03Gcd.f k a b) ((Int.gcd a b : Nat) : Int) := by
  unfold spec_l03Gcd.f
  rw [mx_abs a ha, mx_abs b hb]
  have := sgcd_loop (b.natAbs + 1) ((a.natAbs : Nat) : Int) ((b.natAbs : Nat) : Int) (by omega) (by omega) (by omega)
  have e : Int.gcd ((a.natAbs : Nat) : Int) ((b.natAbs : Nat) : Int) = Int.gcd a b := by simp [Int.gcd]
  rw [e] at this
  exact this
theorem it_l2 : ∀ (m : Nat) (out : List Int), out.length = m → m ≤ 2000000 → Dig out → ∃ r, Canon r ∧ val r = val out ∧ Ev (fun k => impl_times.l2 k out) r := by
  intro m
  induction m with
  | zero =>
    intro out hl _ hd
    obtain rfl : out = [] := List.length_eq_zero_iff.1 hl
    refine ⟨[], ⟨Dig_nil, Top_nil⟩, rfl, Ev_at1 fun k => ?_⟩
    simp [impl_times.l2]
  | succ m ih =>
    intro out hl hm hd
    have hs := take_len_succ hl
    have hw : wrap64 ((out.length : Int) - 1) = (m : Int) := by rw [wrap_id (by omega) (by omega)]; omega
    by_cases h0 : rd out (m : Int) = 0
    · obtain ⟨r, hr, hv, he⟩ := ih (out.take m) (by rw [List.length_take]; omega) (by omega) (Dig_take hd m)
      refine ⟨r, hr, ?_, Ev_round _ (fun k => ?_) he⟩
      · rw [hv]
        conv => rhs; rw [hs, val_snoc, h0]
        omega
      · simp only [impl_times.l2]
        rw [hw, if_pos (by omega), if_pos (by omega), if_pos (by omega), if_pos h0, if_pos (by omega)]
        rfl
    · refine ⟨out, ⟨hd, Top_last (by omega) (by rw [show (out.length : Int) - 1 = (m : Int) from by omega]; exact h0)⟩, rfl, Ev_at1 fun k => ?_⟩
      simp only [impl_times.l2]
      rw [hw, if_pos (by omega), if_pos (by omega), if_pos (by omega), if_neg h0]
theorem it_l1 : ∀ (f : Nat) (c : Int) (out : List Int), 0 ≤ c → c ≤ 10000000000000 → c < (10000 : Int) ^ f → Dig out → out.length + f ≤ 2000000 →
    ∃ r, Canon r ∧ val r = val out + B out.length * c ∧ Ev (fun k => impl_times.l1 k out c) r := by
  intro f
  induction f with
  | zero =>
    intro c out h0 _ h1 hd hl
    have hc : c = 0 := by simp at h1; omega
    obtain ⟨r, hr, hv, he⟩ := it_l2 out.length out rfl (by omega) hd
    refine ⟨r, hr, by rw [hv, hc]; omega, Ev_round _ (fun k => ?_) he⟩
    simp only [impl_times.l1]
    rw [if_neg (by omega)]
  | succ f ih =>
    intro c out h0 h2 h1 hd hl
    by_cases hc : c > 0
    · have hq : c / 10000 < (10000 : Int) ^ f := by rw [Int.pow_succ] at h1; exact Int.ediv_lt_of_lt_mul (by omega) h1
      obtain ⟨r, hr, hv, he⟩ := ih (c / 10000) (out ++ [c % 10000]) (by omega) (by omega) hq (Dig_snoc hd (mod_dig c)) (by simp; omega)
      refine ⟨r, hr, ?_, Ev_round _ (fun k => ?_) he⟩
      · rw [hv, val_snoc, List.length_append, List.length_singleton, B_succ, Int.mul_comm 10000, Int.mul_assoc, Int.add_assoc, ← Int.mul_add, Int.emod_add_mul_ediv]
      · obtain ⟨e1, e2⟩ := dm_nonneg (show 0 ≤ c by omega)
        simp only [impl_times.l1]
        rw [if_pos hc, if_pos (by omega), e1, e2, wrap_id (by omega) (by omega)]
    · have hc : c = 0 := by omega
      obtain ⟨r, hr, hv, he⟩ := it_l2 out.length out rfl (by omega) hd
      refine ⟨r, hr, by rw [hv, hc]; omega, Ev_round _ (fun k => ?_) he⟩
      simp only [impl_times.l1]
      rw [if_neg (by omega)]
theorem it_l0 (b : List Int) (hb : Dig b) (hl : b.length ≤ 1000000) (n : Int) (hn : 0 ≤ n ∧ n ≤ 10000000000000) : ∀ (d i : Nat) (out : List Int) (c : Int), i + d = b.length → out.length = i → Dig out → 0 ≤ c ∧ c ≤ n →
    val out + B i * c = n * val (b.take i) → ∃ r, Canon r ∧ val r = n * val b ∧ Ev (fun k => impl_times.l0 k n out c b (b.length : Int) (i : Int)) r := by
  intro d
  induction d with
  | zero =>
    intro i out c hi ho hd hc hv
    obtain ⟨r, hr, hrv, he⟩ := it_l1 5 c out hc.1 (by omega) (by omega) hd (by omega)
    refine ⟨r, hr, ?_, Ev_round _ (fun k => ?_) he⟩
    · rw [hrv, ho, hv, show i = b.length from by omega, List.take_length]
    · simp only [impl_times.l0]
      rw [if_neg (by omega)]
  | succ d ih =>
    intro i out c hi ho hd hc hv
    have hg := hb _ (rd_mem b (i : Int) (by omega) (by omega))
    have hcb := carry_bd hg hn.1 hc
    generalize hx : rd b (i : Int) * n + c = x at hcb
    obtain ⟨r, hr, hrv, he⟩ := ih (i + 1) (out ++ [x % 10000]) (x / 10000) (by omega) (by simp [ho]) (Dig_snoc hd (mod_dig x)) hcb.2.2 (by
      rw [val_snoc, ho, B_succ, take_snoc b i (by omega), val_snoc, List.length_take, Nat.min_eq_left (by omega)]
      exact mul_step hv hx.symm)
    refine ⟨r, hr, hrv, Ev_round _ (fun k => ?_) he⟩
    obtain ⟨e1, e2⟩ := dm_nonneg hcb.1
    have hm : 0 ≤ rd b (i : Int) * n := Int.mul_nonneg hg.1 hn.1
    simp only [impl_times.l0]
    rw [if_pos (by omega), if_pos (by omega), if_pos (by omega), if_pos (by omega), wrap_id (n := rd b (i : Int) * n) (by omega) (by omega), hx, wrap_id (n := x) (by omega) (by omega), e1, e2, wrap_id (n := x / 10000) (by omega) (by omega), wrap_id (n := (i : Int) + 1) (by omega) (by omega)]
    simp
theorem itimes_ev {b : List Int} (hb : Dig b) (hl : b.length ≤ 1000000) {n : Int} (hn : 0 ≤ n ∧ n ≤ 10000000000000) : ∃ r, Canon r ∧ val r = n * val b ∧ Ev (fun k => impl_times.f k b n) r := by
  have := it_l0 b hb hl n hn b.length 0 [] 0 (by omega) rfl Dig_nil (by omega) (by simp [val])
  simpa [impl_times.f] using this
theorem io_loop (a b : List Int) (ha : Dig a) (hb : Dig b) (hl : a.length = b.length) (hs : a.length ≤ 2000000) : ∀ (j : Nat), j ≤ a.length → a.drop j = b.drop j →
    Ev (fun k => impl_order.l0 k a b ((j : Int) - 1)) (cmpI (val a) (val b)) := by
  intro j
  induction j with
  | zero =>
    intro _ hd
    have e : a = b := by simpa using hd
    refine Ev_at1 fun k => ?_
    simp only [impl_order.l0]
    rw [if_neg (by omega), e, cmpI_self]
  | succ j ih =>
    intro hj hd
    have hw : ((j + 1 : Nat) : Int) - 1 = (j : Int) := by omega
    rw [hw]
    rcases Int.lt_trichotomy (rd a (j : Int)) (rd b (j : Int)) with h | h | h
    · refine Ev_at1 fun k => ?_
      simp only [impl_order.l0]
      rw [if_pos (by omega), if_pos (by omega), if_pos (by omega), if_pos (by omega), if_pos h, cmpI_lt (val_at ha hb j (by omega) (by omega) hd h)]
    · refine Ev_round _ (fun k => ?_) (ih (by omega) (by rw [drop_cons a j (by omega), drop_cons b j (by omega), h, hd]))
      simp only [impl_order.l0]
      rw [if_pos (by omega), if_pos (by omega), if_pos (by omega), if_pos (by omega), if_neg (by omega), if_neg (by omega), wrap_id (by omega) (by omega)]
    · refine Ev_at1 fun k => ?_
      simp only [impl_order.l0]
      rw [if_pos (by omega), if_pos (by omega), if_pos (by omega), if_pos (by omega), if_neg (by omega), if_pos (by omega), cmpI_gt (val_at hb ha j (by omega) (by omega) hd.symm h)]
theorem iorder_ev {a b : List Int} (ha : Canon a) (hb : Canon b) (hs : a.length ≤ 2000000) : Ev (fun k => impl_order.f k a b) (cmpI (val a) (val b)) := by
  unfold impl_order.f
  by_cases h : a.length = b.length
  · refine Ev.congr (fun k => by rw [if_pos (by omega)]) ?_
    rw [wrap_id (by omega) (by omega)]
    exact io_loop a b ha.1 hb.1 h hs a.length (Nat.le_refl _) (by rw [List.drop_length, h, List.drop_length])
  · refine Ev_eq fun k => ?_
    rw [if_neg (by omega)]
    rcases Nat.lt_or_gt_of_ne h with h1 | h1
    · rw [if_pos (by omega), cmpI_lt (Canon_len_lt ha hb h1)]
    · rw [if_neg (by omega), cmpI_gt (Canon_len_lt hb ha h1)]
theorem pow_le {p : Int} (hp : 1 ≤ p) {m n : Nat} (h : m ≤ n) : p ^ m ≤ p ^ n := by
  obtain ⟨d, rfl⟩ := Nat.le.dest h
  clear h
  induction d with
  | zero => exact Int.le_refl _
  | succ d ih =>
    have h0 : 0 ≤ p ^ (m + d) := Int.pow_nonneg (by omega)
    have : p ^ (m + d) * 1 ≤ p ^ (m + d) * p := Int.mul_le_mul_of_nonneg_left hp h0
    rw [show m + (d + 1) = (m + d) + 1 from by omega, Int.pow_succ]
    omega
/-- The factor's loop: it comes to the next product, and goes on. -/
theorem ip_l2 {p e lim : Int} (hp : 2 ≤ p ∧ p ≤ 5) {x7 : List Int} (h7 : Canon x7) (hl : x7.length ≤ 1000000) {rows : List (List Int)} {m i0 left n : Int} (hn : 0 ≤ n ∧ n ≤ 29) (hpn : p ^ n.toNat ≤ 1000000000) {r : Int → List Int → Prop} :
    ∀ (d i : Nat) (x12 : Int), (i : Int) + d = n → x12 = p ^ i → ∃ t, Canon t ∧ val t = p ^ n.toNat * val x7 ∧
      ∀ res : List Int, Ev (fun k => impl_product.l1 k t [p, e, lim] (wrap64 (left - n)) rows m i0) res → Ev (fun k => impl_product.l2 k x7 [p, e, lim] left n x12 (i : Int) rows m i0) res := by
  intro d
  induction d with
  | zero =>
    intro i x12 hi hx
    have hin : i = n.toNat := by omega
    have hpos : 0 ≤ p ^ n.toNat := Int.pow_nonneg (by omega)
    obtain ⟨t, ht, hv, he⟩ := itimes_ev h7.1 hl (n := x12) (by rw [hx, hin]; omega)
    refine ⟨t, ht, by rw [hv, hx, hin], fun res hres => Ev.step (f := fun k => (impl_times.f k x7 x12).bind fun t192 => (impl_product.l1 k t192 [p, e, lim] (wrap64 (left - n)) rows m i0)) (fun k => ?_) (Ev.bind he hres)⟩
    simp only [impl_product.l2]
    rw [if_neg (by omega)]
  | succ d ih =>
    intro i x12 hi hx
    have h1 : p ^ (i + 1) ≤ p ^ n.toNat := pow_le (by omega) (by omega)
    have h0 : 0 ≤ p ^ (i + 1) := Int.pow_nonneg (by omega)
    obtain ⟨t, ht, hv, he⟩ := ih (i + 1) (p ^ (i + 1)) (by omega) rfl
    refine ⟨t, ht, hv, fun res hres => Ev_round _ (fun k => ?_) (he res hres)⟩
    have hr : rd [p, e, lim] 0 = p := rfl
    simp only [impl_product.l2]
    rw [if_pos (by omega), if_pos (by simp), hr, hx, ← Int.pow_succ, wrap_id (n := p ^ (i + 1)) (by omega) (by omega), wrap_id (n := (i : Int) + 1) (by omega) (by omega)]
    rfl
/-- One prime's loop. -/
theorem ip_l1 {p e lim : Int} (hp : 2 ≤ p ∧ p ≤ 5) (hlim : 1 ≤ lim ∧ lim ≤ 29) (hpl : p ^ lim.toNat ≤ 1000000000) {rows : List (List Int)} {m i0 : Int} (N : Nat) (hN : N ≤ 1000000) (hi0 : 0 ≤ i0 ∧ i0 ≤ 10) :
    ∀ (f : Nat) (left : Int) (x7 : List Int), 0 ≤ left → left < f → left ≤ 1000000 → Canon x7 → p ^ left.toNat * val x7 < 2 ^ N → ∃ t, Canon t ∧ val t = p ^ left.toNat * val x7 ∧
      ∀ res : List Int, Ev (fun k => impl_product.l0 k t rows m (i0 + 1)) res → Ev (fun k => impl_product.l1 k x7 [p, e, lim] left rows m i0) res := by
  intro f
  induction f with
  | zero => intro left x7 h0 h1; omega
  | succ f ih =>
    intro left x7 h0 h1 hle h7 hv
    by_cases hz : left > 0
    · have hv0 := (val_bd h7.1).1
      have hmn : mn left lim = if lim < left then lim else left := rfl
      generalize hnn : mn left lim = n at hmn
      have hn : 1 ≤ n ∧ n ≤ left ∧ n ≤ lim := by split at hmn <;> omega
      have hsplit : p ^ left.toNat = p ^ (left - n).toNat * p ^ n.toNat := by rw [← Int.pow_add]; congr 1; omega
      have hle1 : val x7 ≤ p ^ left.toNat * val x7 := by
        have h1 : 1 ≤ p ^ left.toNat := by have := pow_le (p := p) (by omega) (Nat.zero_le left.toNat); simpa using this
        have := Int.mul_le_mul_of_nonneg_right h1 hv0
        omega
      have hl7 : x7.length ≤ 1000000 := Nat.le_trans (Canon_len h7 (Int.lt_of_le_of_lt hle1 hv)) hN
      obtain ⟨t, ht, htv, he⟩ := ip_l2 (p := p) (e := e) (lim := lim) hp h7 hl7 (rows := rows) (m := m) (i0 := i0) (left := left) (n := n) (by omega) (Int.le_trans (pow_le (by omega) (by omega)) hpl) (r := fun _ _ => True) n.toNat 0 1 (by omega) (by simp)
      have hv2 : p ^ (left - n).toNat * val t = p ^ left.toNat * val x7 := by rw [htv, hsplit, Int.mul_assoc]
      obtain ⟨u, hu, huv, hue⟩ := ih (left - n) t (by omega) (by omega) (by omega) ht (by rw [hv2]; exact hv)
      refine ⟨u, hu, by rw [huv, hv2], fun res hres => Ev_round _ (fun k => ?_) (he res ?_)⟩
      · have hr : rd [p, e, lim] 2 = lim := rfl
        simp only [impl_product.l1]
        rw [if_pos hz, if_pos (by simp), hr, hnn]
        rfl
      · rw [wrap_id (by omega) (by omega)]; exact hue res hres
    · obtain rfl : left = 0 := by omega
      refine ⟨x7, h7, by simp, fun res hres => Ev_round _ (fun k => ?_) hres⟩
      simp only [impl_product.l1]
      rw [if_neg hz, wrap_id (by omega) (by omega)]
theorem ip_l0 {rows : List (List Int)} {m : Int} (i : Nat) (x7 : List Int) (res : List Int) {p e lim : Int} (hm : m = rows.length) (hi : i < rows.length) (hr : rd_L3 rows (i : Int) = [p, e, lim])
    (h : Ev (fun k => impl_product.l1 k x7 [p, e, lim] e rows m (i : Int)) res) : Ev (fun k => impl_product.l0 k x7 rows m (i : Int)) res := by
  refine Ev_round _ (fun k => ?_) h
  simp only [impl_product.l0]
  rw [if_pos (by omega), if_pos (by omega), if_pos (by omega), hr, if_pos (by simp)]
  rfl
theorem iproduct_ev {a b c : Int} (ha : 0 ≤ a ∧ a ≤ 100000) (hb : 0 ≤ b ∧ b ≤ 100000) (hc : 0 ≤ c ∧ c ≤ 100000) : ∃ r, Canon r ∧ val r = ((num a b c : Nat) : Int) ∧ r.length ≤ 1000000 ∧ Ev (fun k => impl_product.f k a b c) r := by
  have hnum : ((num a b c : Nat) : Int) = 2 ^ a.toNat * 3 ^ b.toNat * 5 ^ c.toNat := by simp [num]
  have h3 : (3 : Nat) ^ b.toNat ≤ 2 ^ (2 * b.toNat) := by rw [Nat.pow_mul]; exact Nat.pow_le_pow_left (by omega) _
  have h5 : (5 : Nat) ^ c.toNat ≤ 2 ^ (3 * c.toNat) := by rw [Nat.pow_mul]; exact Nat.pow_le_pow_left (by omega) _
  have hN : num a b c < 2 ^ (a.toNat + 2 * b.toNat + 3 * c.toNat + 1) := by
    have h1 : num a b c ≤ 2 ^ a.toNat * 2 ^ (2 * b.toNat) * 2 ^ (3 * c.toNat) := Nat.mul_le_mul (Nat.mul_le_mul (Nat.le_refl _) h3) h5
    rw [← Nat.pow_add, ← Nat.pow_add] at h1
    exact Nat.lt_of_le_of_lt h1 (Nat.pow_lt_pow_right (by omega) (by omega))
  generalize hNe : a.toNat + 2 * b.toNat + 3 * c.toNat + 1 = N at hN
  have hNI : ((num a b c : Nat) : Int) < 2 ^ N := by exact_mod_cast hN
  have p2 : (0 : Int) < 2 ^ a.toNat := Int.pow_pos (by omega)
  have p3 : (0 : Int) < 3 ^ b.toNat := Int.pow_pos (by omega)
  have p5 : (0 : Int) < 5 ^ c.toNat := Int.pow_pos (by omega)
  have q2 : (2 : Int) ^ a.toNat ≤ 2 ^ a.toNat * 3 ^ b.toNat := by have := Int.mul_le_mul_of_nonneg_left (show 1 ≤ (3 : Int) ^ b.toNat by omega) (Int.le_of_lt p2); omega
  have q23 : (0 : Int) < 2 ^ a.toNat * 3 ^ b.toNat := Int.mul_pos p2 p3
  have q3 : (2 : Int) ^ a.toNat * 3 ^ b.toNat ≤ 2 ^ a.toNat * 3 ^ b.toNat * 5 ^ c.toNat := by have := Int.mul_le_mul_of_nonneg_left (show 1 ≤ (5 : Int) ^ c.toNat by omega) (Int.le_of_lt q23); omega
  rw [hnum] at hNI
  generalize hrows : [[2, a, 29], [3, b, 18], [5, c, 12]] = rows
  have hm : rows.length = 3 := by rw [← hrows]; rfl
  obtain ⟨t, ht, htv, he⟩ := ip_l1 (p := 2) (e := a) (lim := 29) (by omega) (by omega) (by decide) (rows := rows) (m := 3) (i0 := 0) N (by omega) (by omega) (a.toNat + 1) a [1] ha.1 (by omega) (by omega) Canon_one (by simp only [val]; omega)
  have htv' : val t = 2 ^ a.toNat := by rw [htv]; simp [val]
  obtain ⟨u, hu, huv, hue⟩ := ip_l1 (p := 3) (e := b) (lim := 18) (by omega) (by omega) (by decide) (rows := rows) (m := 3) (i0 := 1) N (by omega) (by omega) (b.toNat + 1) b t hb.1 (by omega) (by omega) ht (by rw [htv', Int.mul_comm]; omega)
  have huv' : val u = 2 ^ a.toNat * 3 ^ b.toNat := by rw [huv, htv', Int.mul_comm]
  obtain ⟨v, hv, hvv, hve⟩ := ip_l1 (p := 5) (e := c) (lim := 12) (by omega) (by omega) (by decide) (rows := rows) (m := 3) (i0 := 2) N (by omega) (by omega) (c.toNat + 1) c u hc.1 (by omega) (by omega) hu (by rw [huv', Int.mul_comm]; exact hNI)
  have hvv' : val v = 2 ^ a.toNat * 3 ^ b.toNat * 5 ^ c.toNat := by rw [hvv, huv', Int.mul_comm]
  refine ⟨v, hv, by rw [hnum, hvv'], Nat.le_trans (Canon_len hv (by rw [hvv']; exact hNI)) (by omega), ?_⟩
  have hend : Ev (fun k => impl_product.l0 k v rows 3 ((3 : Nat) : Int)) v := Ev_at1 fun k => by simp only [impl_product.l0]; rw [if_neg (by omega)]
  have r2 := ip_l0 (m := 3) 2 u v (p := 5) (e := c) (lim := 12) (by omega) (by omega) (by rw [← hrows]; rfl) (hve v hend)
  have r1 := ip_l0 (m := 3) 1 t v (p := 3) (e := b) (lim := 18) (by omega) (by omega) (by rw [← hrows]; rfl) (hue v r2)
  have r0 := ip_l0 (m := 3) 0 [1] v (p := 2) (e := a) (lim := 29) (by omega) (by omega) (by rw [← hrows]; rfl) (he v r1)
  unfold impl_product.f
  rw [hrows]
  simp only [Option.bind_some, hm]
  exact r0
theorem mx_nonneg (a : Int) : mx a 0 = ((a.toNat : Nat) : Int) := by unfold mx; split <;> omega
theorem isign_ev {a b c : Int} (ha : a.natAbs ≤ 100000) (hb : b.natAbs ≤ 100000) (hc : c.natAbs ≤ 100000) : Ev (fun k => impl_sign.f k a b c) (sg a b c) := by
  unfold impl_sign.f
  rw [wrap_id (n := -a) (by omega) (by omega), wrap_id (n := -b) (by omega) (by omega), wrap_id (n := -c) (by omega) (by omega)]
  simp only [mx_nonneg]
  obtain ⟨r, hr, hrv, hrl, he⟩ := iproduct_ev (a := ((a.toNat : Nat) : Int)) (b := ((b.toNat : Nat) : Int)) (c := ((c.toNat : Nat) : Int)) (by omega) (by omega) (by omega)
  obtain ⟨s, hs, hsv, hsl, hse⟩ := iproduct_ev (a := (((-a).toNat : Nat) : Int)) (b := (((-b).toNat : Nat) : Int)) (c := (((-c).toNat : Nat) : Int)) (by omega) (by omega) (by omega)
  have e1 : num ((a.toNat : Nat) : Int) ((b.toNat : Nat) : Int) ((c.toNat : Nat) : Int) = num a b c := by simp only [num, Int.toNat_natCast]
  have e2 : num (((-a).toNat : Nat) : Int) (((-b).toNat : Nat) : Int) (((-c).toNat : Nat) : Int) = num (-a) (-b) (-c) := by simp only [num, Int.toNat_natCast]
  have ho := iorder_ev hr hs (by omega)
  rw [hrv, hsv, e1, e2] at ho
  exact Ev.bind he (Ev.bind hse (Ev.bind ho (Ev_eq fun k => rfl)))
def cmpL (a b c r a' b' c' r' : Int) : Int := if Ok a b c r ∧ Ok a' b' c' r' then sg (a * r' - a' * r) (b * r' - b' * r) (c * r' - c' * r) else 0
theorem icmp_ev (a b c r a' b' c' r' : Int) : Ev (fun k => impl_CompareIntervals.f k a b c r a' b' c' r') (cmpL a b c r a' b' c' r') := by
  unfold impl_CompareIntervals.f
  by_cases h : Ok a b c r
  · by_cases h' : Ok a' b' c' r'
    · refine Ev_bindE (fun k => iok_eq ..) (Ev.congr (fun k => by rw [if_pos (by simpa using h)]) (Ev_bindE (fun k => iok_eq ..) (Ev.congr (fun k => by rw [if_pos (by simpa using h')]) ?_)))
      obtain ⟨k1, k2, k3, k4⟩ := id h
      obtain ⟨l1, l2, l3, l4⟩ := id h'
      have m1 := bd_mul k2 (show 0 ≤ r' ∧ r' ≤ 12 by omega) (by omega)
      have m2 := bd_mul k3 (show 0 ≤ r' ∧ r' ≤ 12 by omega) (by omega)
      have m3 := bd_mul k4 (show 0 ≤ r' ∧ r' ≤ 12 by omega) (by omega)
      have n1 := bd_mul l2 (show 0 ≤ r ∧ r ≤ 12 by omega) (by omega)
      have n2 := bd_mul l3 (show 0 ≤ r ∧ r ≤ 12 by omega) (by omega)
      have n3 := bd_mul l4 (show 0 ≤ r ∧ r ≤ 12 by omega) (by omega)
      have e : cmpL a b c r a' b' c' r' = sg (a * r' - a' * r) (b * r' - b' * r) (c * r' - c' * r) := by unfold cmpL; rw [if_pos ⟨h, h'⟩]
      rw [e, wrap_id (n := a * r') (by omega) (by omega), wrap_id (n := b * r') (by omega) (by omega), wrap_id (n := c * r') (by omega) (by omega), wrap_id (n := a' * r) (by omega) (by omega), wrap_id (n := b' * r) (by omega) (by omega), wrap_id (n := c' * r) (by omega) (by omega),
        wrap_id (n := a * r' - a' * r) (by omega) (by omega), wrap_id (n := b * r' - b' * r) (by omega) (by omega), wrap_id (n := c * r' - c' * r) (by omega) (by omega)]
      exact Ev.bind (isign_ev (by omega) (by omega) (by omega)) (Ev_eq fun k => rfl)
    · refine Ev_bindE (fun k => iok_eq ..) (Ev.congr (fun k => by rw [if_pos (by simpa using h)]) (Ev_bindE (fun k => iok_eq ..) (Ev_eq fun k => ?_)))
      rw [if_neg (by simpa using h')]; simp [cmpL, h']
  · refine Ev_bindE (fun k => iok_eq ..) (Ev_eq fun k => ?_)
    rw [if_neg (by simpa using h)]; simp [cmpL, h]
/-- One pass over the groups, in place. -/
theorem st_l1 (b : List Int) (hb : Canon b) (hl : b.length ≤ 1000000) {n e x7 : Int} (hn : 1 ≤ n ∧ n ≤ 9) : ∀ (d i : Nat) (cur out : List Int) (c : Int), i + d = b.length → out.length = i → Dig out → 0 ≤ c ∧ c ≤ n → cur = out ++ b.drop i →
    val out + B i * c = n * val (b.take i) → ∃ r, Canon r ∧ val r = n * val b ∧ r.length ≤ b.length + 1 ∧ ∀ res : List Int, Ev (fun k => spec_l04Times.l0 k r n e (wrap64 (x7 + 1))) res → Ev (fun k => spec_l04Times.l1 k cur n e x7 c (i : Int)) res := by
  intro d
  induction d with
  | zero =>
    intro i cur out c hi ho hd hc hcur hv
    have hib : i = b.length := by omega
    rw [hib, List.drop_length, List.append_nil] at hcur
    subst hcur
    rw [hib, List.take_length] at hv
    by_cases h0 : c > 0
    · refine ⟨cur ++ [c], ⟨Dig_snoc hd (by omega), Top_last (by simp) ?_⟩, ?_, by simp; omega, fun res hres => Ev_round _ (fun k => ?_) hres⟩
      · rw [show ((cur ++ [c]).length : Int) - 1 = (cur.length : Int) from by simp, rd_nat]; simp; omega
      · rw [val_snoc, ho, hib, hv]
      · simp only [spec_l04Times.l1]
        rw [if_neg (by omega), if_pos h0, if_pos (by omega)]
    · have hc0 : c = 0 := by omega
      rw [hc0, Int.mul_zero, Int.add_zero] at hv
      refine ⟨cur, ⟨hd, ?_⟩, hv, by omega, fun res hres => Ev_round _ (fun k => ?_) hres⟩
      · by_cases hne : cur = []
        · rw [hne]; exact Top_nil
        · have hbne : b ≠ [] := by intro q; rw [q] at hib; simp at hib; rw [hib] at ho; exact hne (List.length_eq_zero_iff.1 ho)
          refine (Top_iff hd hne).2 ?_
          have h1 := (Top_iff hb.1 hbne).1 hb.2
          have h2 := (val_bd hb.1).1
          have h3 := Int.mul_le_mul_of_nonneg_right hn.1 h2
          rw [hv, ho, hib]; omega
      · simp only [spec_l04Times.l1]
        rw [if_neg (by omega), if_neg h0]
  | succ d ih =>
    intro i cur out c hi ho hd hc hcur hv
    have hrd : rd cur (i : Int) = rd b (i : Int) := by
      rw [hcur, rd_nat, List.getD_eq_getElem?_getD, List.getElem?_append_right (by omega), ho, Nat.sub_self, drop_cons b i (by omega)]; simp
    have hcl : cur.length = b.length := by rw [hcur, List.length_append, List.length_drop]; omega
    have hg := hb.1 _ (rd_mem b (i : Int) (by omega) (by omega))
    have hcb := carry_bd hg (show 0 ≤ n by omega) hc
    have hm : 0 ≤ rd b (i : Int) * n := Int.mul_nonneg hg.1 (by omega)
    generalize hx : rd b (i : Int) * n + c = x at hcb
    obtain ⟨r, hr, hrv, hrl, he⟩ := ih (i + 1) (cur.set i (x % 10000)) (out ++ [x % 10000]) (x / 10000) (by omega) (by simp [ho]) (Dig_snoc hd (mod_dig x)) hcb.2.2 (by
        rw [hcur, drop_cons b i (by omega), List.set_append_right _ _ (by omega), ho, Nat.sub_self]; simp) (by
      rw [val_snoc, ho, B_succ, take_snoc b i (by omega), val_snoc, List.length_take, Nat.min_eq_left (by omega)]
      exact mul_step hv hx.symm)
    refine ⟨r, hr, hrv, hrl, fun res hres => Ev_round _ (fun k => ?_) (he res hres)⟩
    obtain ⟨e1, e2⟩ := dm_nonneg hcb.1
    simp only [spec_l04Times.l1]
    rw [if_pos (by omega), if_pos (by omega), hrd, wrap_id (n := rd b (i : Int) * n) (by omega) (by omega), hx, wrap_id (n := x) (by omega) (by omega), e1, e2, wrap_id (n := x / 10000) (by omega) (by omega), wrap_id (n := (i : Int) + 1) (by omega) (by omega)]
    simp
theorem st_l0 {n : Int} (hn : 1 ≤ n ∧ n ≤ 9) : ∀ (d i : Nat) (b : List Int), Canon b → b.length + d ≤ 1000000 → i + d ≤ 1000000 → ∃ r, Canon r ∧ val r = n ^ d * val b ∧ r.length ≤ b.length + d ∧ Ev (fun k => spec_l04Times.l0 k b n ((i + d : Nat) : Int) (i : Int)) r := by
  intro d
  induction d with
  | zero =>
    intro i b hb hl hi
    refine ⟨b, hb, by simp, by omega, Ev_at1 fun k => ?_⟩
    simp only [spec_l04Times.l0]
    rw [if_neg (by omega)]
  | succ d ih =>
    intro i b hb hl hi
    obtain ⟨r, hr, hrv, hrl, he⟩ := st_l1 b hb (by omega) (n := n) (e := ((i + (d + 1) : Nat) : Int)) (x7 := (i : Int)) hn b.length 0 b [] 0 (by omega) rfl Dig_nil (by omega) (by simp) (by simp [val])
    obtain ⟨s, hs, hsv, hsl, hse⟩ := ih (i + 1) r hr (by omega) (by omega)
    refine ⟨s, hs, by rw [hsv, hrv, Int.pow_succ, Int.mul_assoc], by omega, Ev_round _ (fun k => ?_) (he s ?_)⟩
    · simp only [spec_l04Times.l0]
      rw [if_pos (by omega)]
      rfl
    · rw [wrap_id (by omega) (by omega)]
      rw [show i + 1 + d = i + (d + 1) from by omega] at hse
      exact hse
theorem stimes_ev {b : List Int} (hb : Canon b) {n e : Int} (hn : 1 ≤ n ∧ n ≤ 9) (he : 0 ≤ e) (hl : (b.length : Int) + e ≤ 1000000) : ∃ r, Canon r ∧ val r = n ^ e.toNat * val b ∧ (r.length : Int) ≤ b.length + e ∧ Ev (fun k => spec_l04Times.f k b n e) r := by
  obtain ⟨r, hr, hrv, hrl, h⟩ := st_l0 hn e.toNat 0 b hb (by omega) (by omega)
  refine ⟨r, hr, hrv, by omega, ?_⟩
  unfold spec_l04Times.f
  rw [show ((0 + e.toNat : Nat) : Int) = e from by omega] at h
  exact h
theorem sc_loop (a b : List Int) (ha : Dig a) (hb : Dig b) (hl : a.length = b.length) (hs : a.length ≤ 2000000) : ∀ (j : Nat), j ≤ a.length → a.drop j = b.drop j →
    Ev (fun k => spec_l04Compare.l0 k a b ((j : Int) - 1)) (cmpI (val a) (val b)) := by
  intro j
  induction j with
  | zero =>
    intro _ hd
    have e : a = b := by simpa using hd
    refine Ev_at1 fun k => ?_
    simp only [spec_l04Compare.l0]
    rw [if_neg (by omega), e, cmpI_self]
  | succ j ih =>
    intro hj hd
    have hw : ((j + 1 : Nat) : Int) - 1 = (j : Int) := by omega
    rw [hw]
    rcases Int.lt_trichotomy (rd a (j : Int)) (rd b (j : Int)) with h | h | h
    · refine Ev_at1 fun k => ?_
      simp only [spec_l04Compare.l0]
      rw [if_pos (by omega), if_pos (by omega), if_pos (by omega), if_pos (by omega), if_neg (by omega), if_pos h, cmpI_lt (val_at ha hb j (by omega) (by omega) hd h)]
    · refine Ev_round _ (fun k => ?_) (ih (by omega) (by rw [drop_cons a j (by omega), drop_cons b j (by omega), h, hd]))
      simp only [spec_l04Compare.l0]
      rw [if_pos (by omega), if_pos (by omega), if_pos (by omega), if_pos (by omega), if_pos h, wrap_id (by omega) (by omega)]
    · refine Ev_at1 fun k => ?_
      simp only [spec_l04Compare.l0]
      rw [if_pos (by omega), if_pos (by omega), if_pos (by omega), if_pos (by omega), if_neg (by omega), if_neg (by omega), cmpI_gt (val_at hb ha j (by omega) (by omega) hd.symm h)]
theorem scomp_ev {a b : List Int} (ha : Canon a) (hb : Canon b) (hs : a.length ≤ 2000000) : Ev (fun k => spec_l04Compare.f k a b) (cmpI (val a) (val b)) := by
  unfold spec_l04Compare.f
  by_cases h : a.length = b.length
  · refine Ev.congr (fun k => by rw [if_pos (by omega)]) ?_
    rw [wrap_id (by omega) (by omega)]
    exact sc_loop a b ha.1 hb.1 h hs a.length (Nat.le_refl _) (by rw [List.drop_length, h, List.drop_length])
  · refine Ev_eq fun k => ?_
    rw [if_neg (by omega)]
    rcases Nat.lt_or_gt_of_ne h with h1 | h1
    · rw [if_pos (by omega), cmpI_lt (Canon_len_lt ha hb h1)]
    · rw [if_neg (by omega), cmpI_gt (Canon_len_lt hb ha h1)]
theorem smx_nonneg (a : Int) : mx a 0 = ((a.toNat : Nat) : Int) := by unfold mx; split <;> omega
theorem sprod {a b c : Int} (ha : a.natAbs ≤ 100000) (hb : b.natAbs ≤ 100000) (hc : c.natAbs ≤ 100000) : ∃ x y r, Ev (fun k => spec_l04Times.f k [1] 2 (mx a 0)) x ∧ Ev (fun k => spec_l04Times.f k x 3 (mx b 0)) y ∧ Ev (fun k => spec_l04Times.f k y 5 (mx c 0)) r ∧
    Canon r ∧ val r = ((num a b c : Nat) : Int) ∧ r.length ≤ 1000000 := by
  simp only [smx_nonneg]
  obtain ⟨x, hx, hxv, hxl, h1⟩ := stimes_ev Canon_one (n := 2) (e := ((a.toNat : Nat) : Int)) (by omega) (by omega) (by simp; omega)
  simp only [List.length_singleton] at hxl
  obtain ⟨y, hy, hyv, hyl, h2⟩ := stimes_ev hx (n := 3) (e := ((b.toNat : Nat) : Int)) (by omega) (by omega) (by omega)
  obtain ⟨r, hr, hrv, hrl, h3⟩ := stimes_ev hy (n := 5) (e := ((c.toNat : Nat) : Int)) (by omega) (by omega) (by omega)
  refine ⟨x, y, r, h1, h2, h3, hr, ?_, by omega⟩
  rw [hrv, hyv, hxv]
  simp only [num, val, Int.toNat_natCast, Int.natCast_mul, Int.natCast_pow, Int.mul_zero, Int.add_zero, Int.mul_one]
  show (5 : Int) ^ c.toNat * (3 ^ b.toNat * 2 ^ a.toNat) = 2 ^ a.toNat * 3 ^ b.toNat * 5 ^ c.toNat
  ac_rfl
theorem ssign_j {a b c : Int} (ha : a.natAbs ≤ 100000) (hb : b.natAbs ≤ 100000) (hc : c.natAbs ≤ 100000) : Ev (fun k => spec_l04Sign.j0 k a b c) (sg a b c) := by
  obtain ⟨x, y, r, h1, h2, h3, hr, hrv, hrl⟩ := sprod ha hb hc
  obtain ⟨x', y', r', h1', h2', h3', hr', hrv', hrl'⟩ := sprod (a := -a) (b := -b) (c := -c) (by omega) (by omega) (by omega)
  have ho := scomp_ev hr hr' (by omega)
  rw [hrv, hrv'] at ho
  refine Ev.step (f := fun k => _) (fun k => by simp only [spec_l04Sign.j0]; rfl) ?_
  rw [wrap_id (n := -a) (by omega) (by omega), wrap_id (n := -b) (by omega) (by omega), wrap_id (n := -c) (by omega) (by omega)]
  exact Ev.bind h1 (Ev.bind h2 (Ev.bind h3 (Ev.bind h1' (Ev.bind h2' (Ev.bind h3' (Ev.bind ho (Ev_eq fun k => rfl)))))))
theorem ssign_ev {a b c : Int} (ha : a.natAbs ≤ 100000) (hb : b.natAbs ≤ 100000) (hc : c.natAbs ≤ 100000) : Ev (fun k => spec_l04Sign.f k a b c) (sg a b c) := by
  unfold spec_l04Sign.f
  have hg : (Int.gcd a b : Nat) ≤ 100000 := by
    unfold Int.gcd
    rcases Nat.eq_zero_or_pos a.natAbs with h | h
    · rw [h, Nat.gcd_zero_left]; exact hb
    · exact Nat.le_trans (Nat.gcd_le_left _ h) ha
  refine Ev.bind (sgcd_ev a b (by omega) (by omega)) (Ev.bind (sgcd_ev _ c (by omega) (by omega)) ?_)
  have e : Int.gcd ((Int.gcd a b : Nat) : Int) c = Nat.gcd (Int.gcd a b) c.natAbs := by simp [Int.gcd]
  rw [e]
  have d1 : ((Nat.gcd (Int.gcd a b) c.natAbs : Nat) : Int) ∣ a := Int.dvd_trans (Int.ofNat_dvd.2 (Nat.gcd_dvd_left _ _)) (Int.gcd_dvd_left ..)
  have d2 : ((Nat.gcd (Int.gcd a b) c.natAbs : Nat) : Int) ∣ b := Int.dvd_trans (Int.ofNat_dvd.2 (Nat.gcd_dvd_left _ _)) (Int.gcd_dvd_right ..)
  have d3 : ((Nat.gcd (Int.gcd a b) c.natAbs : Nat) : Int) ∣ c := Int.ofNat_dvd_left.2 (Nat.gcd_dvd_right _ _)
  generalize Nat.gcd (Int.gcd a b) c.natAbs = g at d1 d2 d3
  by_cases h : (g : Int) > 1
  · refine Ev.congr (fun k => by rw [if_pos h, if_neg (by omega)]) ?_
    have bd : ∀ x : Int, x.natAbs ≤ 100000 → (x.tdiv (g : Int)).natAbs ≤ 100000 := fun x hx => by
      have : (x.tdiv (g : Int)).natAbs ≤ x.natAbs := by rw [Int.natAbs_tdiv]; exact Nat.div_le_self _ _
      omega
    have b1 := bd a ha
    have b2 := bd b hb
    have b3 := bd c hc
    rw [wrap_id (n := a.tdiv (g : Int)) (by omega) (by omega), wrap_id (n := b.tdiv (g : Int)) (by omega) (by omega), wrap_id (n := c.tdiv (g : Int)) (by omega) (by omega)]
    have es : sg a b c = sg (a.tdiv (g : Int)) (b.tdiv (g : Int)) (c.tdiv (g : Int)) := by
      rw [← sg_mul (k := (g : Int)) (by omega) (a.tdiv (g : Int)), Int.mul_tdiv_cancel' d1, Int.mul_tdiv_cancel' d2, Int.mul_tdiv_cancel' d3]
    rw [es]
    exact ssign_j b1 b2 b3
  · exact Ev.congr (fun k => by rw [if_neg h]) (ssign_j ha hb hc)
theorem scmp_ev (a b c r a' b' c' r' : Int) : Ev (fun k => spec_CompareIntervals.f k a b c r a' b' c' r') (cmpL a b c r a' b' c' r') := by
  unfold spec_CompareIntervals.f
  by_cases h : Ok a b c r
  · by_cases h' : Ok a' b' c' r'
    · refine Ev_bindE (fun k => sok_eq ..) (Ev.congr (fun k => by rw [if_pos (by simpa using h)]) (Ev_bindE (fun k => sok_eq ..) (Ev.congr (fun k => by rw [if_pos (by simpa using h')]) ?_)))
      obtain ⟨k1, k2, k3, k4⟩ := id h
      obtain ⟨l1, l2, l3, l4⟩ := id h'
      have m1 := bd_mul k2 (show 0 ≤ r' ∧ r' ≤ 12 by omega) (by omega)
      have m2 := bd_mul k3 (show 0 ≤ r' ∧ r' ≤ 12 by omega) (by omega)
      have m3 := bd_mul k4 (show 0 ≤ r' ∧ r' ≤ 12 by omega) (by omega)
      have n1 := bd_mul l2 (show 0 ≤ r ∧ r ≤ 12 by omega) (by omega)
      have n2 := bd_mul l3 (show 0 ≤ r ∧ r ≤ 12 by omega) (by omega)
      have n3 := bd_mul l4 (show 0 ≤ r ∧ r ≤ 12 by omega) (by omega)
      have e : cmpL a b c r a' b' c' r' = sg (a * r' - a' * r) (b * r' - b' * r) (c * r' - c' * r) := by unfold cmpL; rw [if_pos ⟨h, h'⟩]
      rw [e, wrap_id (n := a * r') (by omega) (by omega), wrap_id (n := b * r') (by omega) (by omega), wrap_id (n := c * r') (by omega) (by omega), wrap_id (n := a' * r) (by omega) (by omega), wrap_id (n := b' * r) (by omega) (by omega), wrap_id (n := c' * r) (by omega) (by omega),
        wrap_id (n := a * r' - a' * r) (by omega) (by omega), wrap_id (n := b * r' - b' * r) (by omega) (by omega), wrap_id (n := c * r' - c' * r) (by omega) (by omega)]
      exact Ev.bind (ssign_ev (by omega) (by omega) (by omega)) (Ev_eq fun k => rfl)
    · refine Ev_bindE (fun k => sok_eq ..) (Ev.congr (fun k => by rw [if_pos (by simpa using h)]) (Ev_bindE (fun k => sok_eq ..) (Ev_eq fun k => ?_)))
      rw [if_neg (by simpa using h')]; simp [cmpL, h']
  · refine Ev_bindE (fun k => sok_eq ..) (Ev_eq fun k => ?_)
    rw [if_neg (by simpa using h)]; simp [cmpL, h]
def cv (x : S23) : S24 := ⟨x.f0, x.f1, x.f2, x.f3⟩
theorem rdT_lt (l : List S24) (i : Nat) (h : i < l.length) : rd_T24 l (i : Int) = l[i] := by simp [rd_T24, h]
theorem rdT23_lt (l : List S23) (i : Nat) (h : i < l.length) : rd_T23 l (i : Int) = l[i] := by simp [rd_T23, h]
theorem toivs_loop (l : List S23) (hl : l.length ≤ 8796093022208) : ∀ (d i : Nat) (acc : List S24), acc.length = l.length → i + d = l.length → acc.take i = (l.map cv).take i →
    Ev (fun k => laws_toIntervalS.l0 k l acc (i : Int)) (l.map cv) := by
  intro d
  induction d with
  | zero =>
    intro i acc ha hi ht
    refine Ev_at1 fun k => ?_
    simp only [laws_toIntervalS.l0]
    rw [if_neg (by omega)]
    rw [List.take_of_length_le (by omega), List.take_of_length_le (by simp; omega)] at ht
    rw [ht]
  | succ d ih =>
    intro i acc ha hi ht
    refine Ev_round _ (fun k => ?_) (ih (i + 1) (acc.set i (cv (rd_T23 l (i : Int)))) (by simp [ha]) (by omega) ?_)
    · simp only [laws_toIntervalS.l0, laws_toInterval.f, Option.bind_some]
      rw [if_pos (by omega), if_pos (by omega), if_pos (by omega), wrap_id (by omega) (by omega)]
      simp [cv]
    · rw [List.take_succ_eq_append_getElem (by simp; omega), List.take_succ_eq_append_getElem (by simp; omega), List.getElem_set_self, List.take_set_of_le (Nat.le_refl _), ht]
      simp [rdT23_lt l i (by omega)]
theorem toivs_ev (l : List S23) (hl : l.length ≤ 8796093022208) : Ev (fun k => laws_toIntervalS.f k l) (l.map cv) := by
  refine Ev.congr (f := fun k => laws_toIntervalS.l0 k l (List.replicate l.length z24) ((0 : Nat) : Int)) (fun k => ?_) (toivs_loop l hl l.length 0 _ (by simp) (by simp) (by simp))
  unfold laws_toIntervalS.f
  rw [if_pos (by omega), if_pos (by omega)]
  simp
theorem eqivs_loop (l : List S24) (hl : l.length ≤ 8796093022208) : ∀ (d i : Nat), i + d = l.length → Ev (fun k => laws_eqIntervalS.l0 k l l (i : Int)) true := by
  intro d
  induction d with
  | zero =>
    intro i hi
    refine Ev_at1 fun k => ?_
    simp only [laws_eqIntervalS.l0]
    rw [if_neg (by omega)]
  | succ d ih =>
    intro i hi
    refine Ev_round _ (fun k => ?_) (ih (i + 1) (by omega))
    simp only [laws_eqIntervalS.l0, laws_eqInterval.f, if_true, Option.bind_some]
    rw [if_pos (by omega), if_pos (by omega), if_pos (by omega), wrap_id (by omega) (by omega)]
    rfl
theorem eqivs_self (l : List S24) (hl : l.length ≤ 8796093022208) : Ev (fun k => laws_eqIntervalS.f k l l) true := by
  unfold laws_eqIntervalS.f
  exact Ev.congr (fun k => if_pos rfl) (eqivs_loop l hl l.length 0 (by simp))
def OkS (x : S24) : Prop := Ok x.f0 x.f1 x.f2 x.f3
def Good (l : List S24) : Prop := ∀ j : Nat, j < l.length → OkS (rd_T24 l (j : Int))
/-- The checks: all are valid, or one is not. -/
theorem icheck (l : List S24) (hl : l.length ≤ 20) (v : Int) (hv : Ev (fun k => impl_GreatestOf.l1 k l 0 l (l.length : Int) 0) v) : ∀ (d i : Nat), i + d = l.length →
    ((∀ j : Nat, i ≤ j → j < l.length → OkS (rd_T24 l (j : Int))) → Ev (fun k => impl_GreatestOf.l0 k l l (l.length : Int) (i : Int)) v) ∧
    (¬ (∀ j : Nat, i ≤ j → j < l.length → OkS (rd_T24 l (j : Int))) → Ev (fun k => impl_GreatestOf.l0 k l l (l.length : Int) (i : Int)) (-1)) := by
  intro d
  induction d with
  | zero =>
    intro i hi
    refine ⟨fun _ => Ev_round _ (fun k => ?_) hv, fun h => absurd (fun j h1 h2 => by omega) h⟩
    simp only [impl_GreatestOf.l0]
    rw [if_neg (by omega)]
  | succ d ih =>
    intro i hi
    obtain ⟨h1, h2⟩ := ih (i + 1) (by omega)
    by_cases o : OkS (rd_T24 l (i : Int))
    · have step : ∀ r, Ev (fun k => impl_GreatestOf.l0 k l l (l.length : Int) ((i + 1 : Nat) : Int)) r → Ev (fun k => impl_GreatestOf.l0 k l l (l.length : Int) (i : Int)) r := by
        intro r hr
        refine Ev_round _ (fun k => ?_) hr
        simp only [impl_GreatestOf.l0]
        rw [if_pos (by omega), if_pos (by omega), if_pos (by omega), iok_eq, Option.bind_some, if_pos (by simpa [OkS] using o), wrap_id (by omega) (by omega)]
        rfl
      refine ⟨fun h => step _ (h1 fun j q1 q2 => h j (by omega) q2), fun h => step _ (h2 fun q => h fun j q1 q2 => ?_)⟩
      rcases Nat.lt_or_ge i j with q3 | q3
      · exact q j (by omega) q2
      · rw [show j = i from by omega]; exact o
    · refine ⟨fun h => absurd (h i (Nat.le_refl _) (by omega)) o, fun _ => Ev_at1 fun k => ?_⟩
      simp only [impl_GreatestOf.l0]
      rw [if_pos (by omega), if_pos (by omega), if_pos (by omega), iok_eq, Option.bind_some, if_neg (by simpa [OkS] using o)]
theorem scheck (l : List S24) (hl : l.length ≤ 20) (v : Int) (hv : Ev (fun k => spec_GreatestOf.l1 k l (-1) 0) v) : ∀ (d i : Nat), i + d = l.length →
    ((∀ j : Nat, i ≤ j → j < l.length → OkS (rd_T24 l (j : Int))) → Ev (fun k => spec_GreatestOf.l0 k l (-1) (i : Int)) v) ∧
    (¬ (∀ j : Nat, i ≤ j → j < l.length → OkS (rd_T24 l (j : Int))) → Ev (fun k => spec_GreatestOf.l0 k l (-1) (i : Int)) (-1)) := by
  intro d
  induction d with
  | zero =>
    intro i hi
    refine ⟨fun _ => Ev_round _ (fun k => ?_) hv, fun h => absurd (fun j h1 h2 => by omega) h⟩
    simp only [spec_GreatestOf.l0]
    rw [if_neg (by omega)]
  | succ d ih =>
    intro i hi
    obtain ⟨h1, h2⟩ := ih (i + 1) (by omega)
    by_cases o : OkS (rd_T24 l (i : Int))
    · have step : ∀ r, Ev (fun k => spec_GreatestOf.l0 k l (-1) ((i + 1 : Nat) : Int)) r → Ev (fun k => spec_GreatestOf.l0 k l (-1) (i : Int)) r := by
        intro r hr
        refine Ev_round _ (fun k => ?_) hr
        simp only [spec_GreatestOf.l0]
        rw [if_pos (by omega), if_pos (by omega), sok_eq, Option.bind_some, if_pos (by simpa [OkS] using o), if_neg (by omega), wrap_id (by omega) (by omega)]
        rfl
      refine ⟨fun h => step _ (h1 fun j q1 q2 => h j (by omega) q2), fun h => step _ (h2 fun q => h fun j q1 q2 => ?_)⟩
      rcases Nat.lt_or_ge i j with q3 | q3
      · exact q j (by omega) q2
      · rw [show j = i from by omega]; exact o
    · refine ⟨fun h => absurd (h i (Nat.le_refl _) (by omega)) o, fun _ => Ev_at1 fun k => ?_⟩
      simp only [spec_GreatestOf.l0]
      rw [if_pos (by omega), if_pos (by omega), sok_eq, Option.bind_some, if_neg (by simpa [OkS] using o)]
/-- The search, from a place on, with a best one so far. -/
theorem search (l : List S24) (hl : l.length ≤ 20) : ∀ (d i out : Nat), i + d = l.length → out < l.length →
    ∃ v, Ev (fun k => spec_GreatestOf.l1 k l (out : Int) (i : Int)) v ∧ Ev (fun k => impl_GreatestOf.l1 k l (out : Int) l (l.length : Int) (i : Int)) v := by
  intro d
  induction d with
  | zero =>
    intro i out hi ho
    refine ⟨(out : Int), Ev_at1 fun k => ?_, Ev_at1 fun k => ?_⟩
    · simp only [spec_GreatestOf.l1]; rw [if_neg (by omega)]
    · simp only [impl_GreatestOf.l1]; rw [if_neg (by omega)]
  | succ d ih =>
    intro i out hi ho
    have h1 := scmp_ev (rd_T24 l (i : Int)).f0 (rd_T24 l (i : Int)).f1 (rd_T24 l (i : Int)).f2 (rd_T24 l (i : Int)).f3 (rd_T24 l (out : Int)).f0 (rd_T24 l (out : Int)).f1 (rd_T24 l (out : Int)).f2 (rd_T24 l (out : Int)).f3
    have h2 := icmp_ev (rd_T24 l (i : Int)).f0 (rd_T24 l (i : Int)).f1 (rd_T24 l (i : Int)).f2 (rd_T24 l (i : Int)).f3 (rd_T24 l (out : Int)).f0 (rd_T24 l (out : Int)).f1 (rd_T24 l (out : Int)).f2 (rd_T24 l (out : Int)).f3
    generalize cmpL (rd_T24 l (i : Int)).f0 (rd_T24 l (i : Int)).f1 (rd_T24 l (i : Int)).f2 (rd_T24 l (i : Int)).f3 (rd_T24 l (out : Int)).f0 (rd_T24 l (out : Int)).f1 (rd_T24 l (out : Int)).f2 (rd_T24 l (out : Int)).f3 = c at h1 h2
    obtain ⟨v, e1, e2⟩ := ih (i + 1) (if c > 0 then i else out) (by omega) (by split <;> omega)
    refine ⟨v, ?_, ?_⟩
    · refine Ev_round (fun k => (spec_CompareIntervals.f k (rd_T24 l (i : Int)).f0 (rd_T24 l (i : Int)).f1 (rd_T24 l (i : Int)).f2 (rd_T24 l (i : Int)).f3 (rd_T24 l (out : Int)).f0 (rd_T24 l (out : Int)).f1 (rd_T24 l (out : Int)).f2 (rd_T24 l (out : Int)).f3).bind fun t => (if t > 0 then (spec_GreatestOf.l1 k l (i : Int) ((i + 1 : Nat) : Int)) else (spec_GreatestOf.l1 k l (out : Int) ((i + 1 : Nat) : Int)))) (fun k => ?_) (Ev.bind h1 (Ev.congr (f := fun k => spec_GreatestOf.l1 k l ((if c > 0 then i else out : Nat) : Int) ((i + 1 : Nat) : Int)) (fun k => by split <;> rfl) e1))
      simp only [spec_GreatestOf.l1]
      rw [if_pos (by omega), if_neg (by omega), if_pos (by omega), if_pos (by omega), if_pos (by omega), wrap_id (by omega) (by omega)]
      rfl
    · refine Ev_round (fun k => (impl_CompareIntervals.f k (rd_T24 l (i : Int)).f0 (rd_T24 l (i : Int)).f1 (rd_T24 l (i : Int)).f2 (rd_T24 l (i : Int)).f3 (rd_T24 l (out : Int)).f0 (rd_T24 l (out : Int)).f1 (rd_T24 l (out : Int)).f2 (rd_T24 l (out : Int)).f3).bind fun t => (if t > 0 then (impl_GreatestOf.l1 k l (i : Int) l (l.length : Int) ((i + 1 : Nat) : Int)) else (impl_GreatestOf.l1 k l (out : Int) l (l.length : Int) ((i + 1 : Nat) : Int)))) (fun k => ?_) (Ev.bind h2 (Ev.congr (f := fun k => impl_GreatestOf.l1 k l ((if c > 0 then i else out : Nat) : Int) l (l.length : Int) ((i + 1 : Nat) : Int)) (fun k => by split <;> rfl) e2))
      simp only [impl_GreatestOf.l1]
      rw [if_pos (by omega), if_pos (by omega), if_pos (by omega), if_pos (by omega), if_pos (by omega), wrap_id (by omega) (by omega)]
      rfl
theorem cmpL_self (a b c r : Int) : cmpL a b c r a b c r = 0 := by
  unfold cmpL
  split
  · rw [Int.sub_self, Int.sub_self, Int.sub_self]; rfl
  · rfl
theorem both (l : List S24) (hl : l.length ≤ 8796093022208) : ∃ v, Ev (fun k => spec_GreatestOf.f k l) v ∧ Ev (fun k => impl_GreatestOf.f k l) v := by
  have hj : Ev (fun k => impl_GreatestOf.j0 k l true) (-1) := Ev_at1 fun k => by simp only [impl_GreatestOf.j0]; rw [if_pos trivial]
  by_cases h0 : l.length = 0
  · refine ⟨-1, ?_, ?_⟩
    · unfold spec_GreatestOf.f
      refine Ev_round (fun k => spec_GreatestOf.l1 k l (-1) 0) (fun k => by simp only [spec_GreatestOf.l0]; rw [if_neg (by omega)]) (Ev_at1 fun k => by simp only [spec_GreatestOf.l1]; rw [if_neg (by omega)])
    · unfold impl_GreatestOf.f
      exact Ev.congr (fun k => by rw [if_pos (by omega)]) hj
  by_cases h20 : l.length ≤ 20
  · obtain ⟨v, e1, e2⟩ := search l h20 l.length 0 0 (by omega) (by omega)
    -- the first round of the reference takes the first one
    have es : Ev (fun k => spec_GreatestOf.l1 k l (-1) 0) v := by
      obtain ⟨d, hd⟩ : ∃ d, l.length = d + 1 := ⟨l.length - 1, by omega⟩
      have h1 := scmp_ev (rd_T24 l 0).f0 (rd_T24 l 0).f1 (rd_T24 l 0).f2 (rd_T24 l 0).f3 (rd_T24 l 0).f0 (rd_T24 l 0).f1 (rd_T24 l 0).f2 (rd_T24 l 0).f3
      rw [cmpL_self] at h1
      obtain ⟨v', e1', e2'⟩ := search l h20 d 1 0 (by omega) (by omega)
      have : Ev (fun k => spec_GreatestOf.l1 k l ((0 : Nat) : Int) ((0 : Nat) : Int)) v' := by
        refine Ev_round (fun k => (spec_CompareIntervals.f k (rd_T24 l 0).f0 (rd_T24 l 0).f1 (rd_T24 l 0).f2 (rd_T24 l 0).f3 (rd_T24 l 0).f0 (rd_T24 l 0).f1 (rd_T24 l 0).f2 (rd_T24 l 0).f3).bind fun t => (if t > 0 then (spec_GreatestOf.l1 k l 0 1) else (spec_GreatestOf.l1 k l 0 1))) (fun k => ?_) (Ev.bind h1 (Ev.congr (f := fun k => spec_GreatestOf.l1 k l ((0 : Nat) : Int) ((1 : Nat) : Int)) (fun k => by split <;> rfl) e1'))
        simp only [spec_GreatestOf.l1, Int.natCast_zero]
        rw [if_pos (by omega), if_neg (by omega), if_pos (by omega), if_pos (by omega), if_pos (by omega), wrap_id (n := (0 : Int) + 1) (by omega) (by omega)]
        rfl
      obtain ⟨K1, k1⟩ := this
      obtain ⟨K2, k2⟩ := e1
      have hvv : v' = v := by
        have a1 := k1 (max K1 K2) (by omega)
        have a2 := k2 (max K1 K2) (by omega)
        rw [a1] at a2; exact Option.some.inj a2
      subst hvv
      refine Ev_round (fun k => spec_GreatestOf.l1 k l ((0 : Nat) : Int) ((1 : Nat) : Int)) (fun k => ?_) e1'
      simp only [spec_GreatestOf.l1]
      rw [if_pos (by omega), if_pos (by omega), wrap_id (n := (0 : Int) + 1) (by omega) (by omega)]
      rfl
    have hi : ∀ r, Ev (fun k => impl_GreatestOf.l0 k l l (l.length : Int) 0) r → Ev (fun k => impl_GreatestOf.f k l) r := by
      intro r hr
      unfold impl_GreatestOf.f
      refine Ev.congr (f := fun k => impl_GreatestOf.j0 k l false) (fun k => by rw [if_neg (by omega), show decide ((l.length : Int) > 20) = false from by simp; omega]) (Ev_round _ (fun k => ?_) hr)
      simp only [impl_GreatestOf.j0, Bool.false_eq_true, if_false]
    obtain ⟨c1, c2⟩ := scheck l h20 v es l.length 0 (by omega)
    obtain ⟨d1, d2⟩ := icheck l h20 v e2 l.length 0 (by omega)
    by_cases g : ∀ j : Nat, 0 ≤ j → j < l.length → OkS (rd_T24 l (j : Int))
    · exact ⟨v, c1 g, hi _ (d1 g)⟩
    · exact ⟨-1, c2 g, hi _ (d2 g)⟩
  · refine ⟨-1, ?_, ?_⟩
    · unfold spec_GreatestOf.f
      refine Ev_at1 fun k => ?_
      simp only [spec_GreatestOf.l0]
      rw [if_pos (by omega), if_pos (by omega), sok_eq, Option.bind_some]
      split
      · rw [if_pos (by omega)]
      · rfl
    · unfold impl_GreatestOf.f
      exact Ev.congr (fun k => by rw [if_neg (by omega), show decide ((l.length : Int) > 20) = true from by simp; omega]) hj
theorem main (l : List S23) (hl : l.length ≤ 9223372036854775807) : ∃ k, laws_FnExactGreatestOf.f k l = some true := by
  refine Ev.rounds ?_
  unfold laws_FnExactGreatestOf.f laws_szIntervalS.f
  rw [wrap_id (n := 1048576 - (l.length : Int)) (by omega) (by omega)]
  by_cases hb : 1048576 - (l.length : Int) < 0
  · exact Ev_eq fun k => by rw [if_pos hb]; rfl
  have hl8 : l.length ≤ 8796093022208 := by omega
  have hm : (l.map cv).length ≤ 8796093022208 := by simpa using hl8
  obtain ⟨v, h1, h2⟩ := both (l.map cv) hm
  refine Ev_bindE (fun k => if_neg hb) (Ev.congr (fun k => by rw [if_neg hb]) (Ev.bind (toivs_ev l hl8) (Ev.bind h1 (Ev.bind (toivs_ev l hl8) (Ev.bind h2 (Ev.congr (fun k => if_pos rfl) (Ev.bind (toivs_ev l hl8) (Ev.bind (eqivs_self _ hm) (Ev_eq fun k => if_pos rfl)))))))))

end Go.Proofs.Ythkkibepninneaa.PureFnExactGreatestOf
