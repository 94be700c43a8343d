/- The law FnOrder returns true for all byte slices (the draws of three intervals that it reads from them). -/
import Derived.Test.YtfimodphnfejdaaQFnOrdery7
import Derived.Test.YtfimodphnfejdaaM0
import Derived.Test.YtfimodphnfejdaaM1
import Derived.Test.YtfimodphnfejdaaM2
import Derived.Test.YtfimodphnfejdaaM3
namespace Go.Proofs.Ytfimodphnfejdaa.PureFnOrder
open Go Go.RowKit Go.Proofs.Ytfimodphnfejdaa.PFnOrder Go.Proofs.Ytfimodphnfejdaa.My Go.Proofs.YtfimodphnfejdaaW.PrintWords Go.Proofs.YtfimodphnfejdaaW.PrintLast Go.Proofs.YtfimodphnfejdaaW.PrintMore
set_option linter.unusedVariables false
set_option linter.unusedSimpArgs false
theorem within_eq (a b c : Int) : impl_within.f a b c = some (decide (b ≤ a ∧ a ≤ c)) := by
  unfold impl_within.f
  by_cases h : b ≤ a <;> simp [h]
theorem iok_eq (a b c r : Int) : impl_IntervalOk.f a b c r = some (decide (Ok a b c r)) := by
  simp only [impl_IntervalOk.f, within_eq, Option.bind_some, Ok]
  by_cases h1 : 1 ≤ r ∧ r ≤ 12 <;> by_cases h2 : -400 ≤ a ∧ a ≤ 400 <;> by_cases h3 : -400 ≤ b ∧ b ≤ 400 <;> simp [h1, h2, h3]
theorem idiv_loop (n : Nat) : ∀ (a b : Int), b.natAbs < n → a.natAbs ≤ 1000000000 → b.natAbs ≤ 1000000000 → Ev (fun k => impl_divisor.l0 k a b) ((Int.gcd a b : Nat) : Int) := by
  induction n with
  | zero => intro a b h; omega
  | succ n ih =>
    intro a b h ha hb
    by_cases h0 : b = 0
    · refine Ev_at1 fun k => ?_
      simp only [impl_divisor.l0]
      rw [if_pos h0, h0, Int.gcd_zero_right]
      by_cases hs : a < 0
      · rw [if_pos hs, wrap_id (by omega) (by omega)]; congr 1; omega
      · rw [if_neg hs]; congr 1; omega
    · have h1 := tmod_lt a b h0
      rw [← gcd_step a b]
      refine Ev_round _ (fun k => ?_) (ih b (a.tmod b) (by omega) hb (by omega))
      simp only [impl_divisor.l0]
      rw [if_neg h0]
theorem idiv_ev (a b : Int) (ha : a.natAbs ≤ 1000000000) (hb : b.natAbs ≤ 1000000000) : Ev (fun k => impl_divisor.f k a b) ((Int.gcd a b : Nat) : Int) := by
  unfold impl_divisor.f
  exact idiv_loop (b.natAbs + 1) a b (by omega) ha hb
theorem isimp_ev {a b c r : Int} (hr : 0 < r) (ha : a.natAbs ≤ 1000000000) (hb : b.natAbs ≤ 1000000000) (hc : c.natAbs ≤ 1000000000) (hr' : r.natAbs ≤ 1000000000) : Ev (fun k => impl_simplest.f k a b c r) (simp4 a b c r) := by
  have hp := g4_pos a b c hr
  have dv : ∀ x : Int, x.natAbs ≤ 1000000000 → ((g4 a b c r : Nat) : Int) ∣ x → wrap64 (x.tdiv ((g4 a b c r : Nat) : Int)) = x / ((g4 a b c r : Nat) : Int) := by
    intro x hx hd
    rw [wrap_id (tdiv_bd x _ hx).1 (tdiv_bd x _ hx).2, tdiv_dvd hd]
  unfold impl_simplest.f
  refine Ev.bind (idiv_ev a b ha hb) (Ev.bind (idiv_ev c r hc hr') (Ev.bind (idiv_ev _ _ (gcd_bd ha hb) (gcd_bd hc hr')) (Ev_eq fun k => ?_)))
  have e : Int.gcd ((Int.gcd a b : Nat) : Int) ((Int.gcd c r : Nat) : Int) = g4 a b c r := by simp [g4, Int.gcd]
  rw [e, if_neg (by omega), dv a ha (g4_dvd1 ..), dv b hb (g4_dvd2 ..), dv c hc (g4_dvd3 ..), dv r hr' (g4_dvd4 ..)]
  rfl
theorem iok_ev2 {a b c r : Int} (hr : 0 < r) (ha : a.natAbs ≤ 1000000000) (hb : b.natAbs ≤ 1000000000) (hc : c.natAbs ≤ 1000000000) (hr' : r.natAbs ≤ 1000000000) : Ev (fun k => impl_okInterval.f k a b c r) (chk (simp4 a b c r)) := by
  unfold impl_okInterval.f
  refine Ev.bind (isimp_ev hr ha hb hc hr') (Ev_eq fun k => ?_)
  simp only [iok_eq, Option.bind_some, chk]
  by_cases h : Ok (simp4 a b c r).1 (simp4 a b c r).2.1 (simp4 a b c r).2.2.1 (simp4 a b c r).2.2.2 <;> simp [h]
theorem iadd_ev (a b c r a' b' c' r' : Int) : Ev (fun k => impl_AddIntervals.f k a b c r a' b' c' r') (addL a b c r a' b' c' r') := by
  unfold impl_AddIntervals.f
  by_cases h : Ok a b c r
  · by_cases h' : Ok a' b' c' r'
    · refine Ev_bindE (fun k => iok_eq ..) (Ev.congr (fun k => by rw [if_pos (by simpa using h)]) (Ev_bindE (fun k => iok_eq ..) (Ev.congr (fun k => by rw [if_pos (by simpa using h')]) ?_)))
      obtain ⟨k1, k2, k3, k4⟩ := h
      obtain ⟨l1, l2, l3, l4⟩ := h'
      have m1 := bd_mul k2 (show 0 ≤ r' ∧ r' ≤ 12 by omega) (by omega)
      have m2 := bd_mul k3 (show 0 ≤ r' ∧ r' ≤ 12 by omega) (by omega)
      have m3 := bd_mul k4 (show 0 ≤ r' ∧ r' ≤ 12 by omega) (by omega)
      have n1 := bd_mul l2 (show 0 ≤ r ∧ r ≤ 12 by omega) (by omega)
      have n2 := bd_mul l3 (show 0 ≤ r ∧ r ≤ 12 by omega) (by omega)
      have n3 := bd_mul l4 (show 0 ≤ r ∧ r ≤ 12 by omega) (by omega)
      have q1 := bd_mul (x := r) (y := r') (A := 12) (B := 12) (by omega) (by omega) (by omega)
      have q2 := Int.mul_pos (show 0 < r by omega) (show 0 < r' by omega)
      have e : addL a b c r a' b' c' r' = chk (simp4 (a * r' + a' * r) (b * r' + b' * r) (c * r' + c' * r) (r * r')) := by unfold addL; rw [if_pos ⟨⟨k1, k2, k3, k4⟩, ⟨l1, l2, l3, l4⟩⟩]
      rw [e]
      rw [wrap_id (n := a * r') (by omega) (by omega), wrap_id (n := b * r') (by omega) (by omega), wrap_id (n := c * r') (by omega) (by omega), wrap_id (n := a' * r) (by omega) (by omega), wrap_id (n := b' * r) (by omega) (by omega), wrap_id (n := c' * r) (by omega) (by omega), wrap_id (n := r * r') (by omega) (by omega),
        wrap_id (n := a * r' + a' * r) (by omega) (by omega), wrap_id (n := b * r' + b' * r) (by omega) (by omega), wrap_id (n := c * r' + c' * r) (by omega) (by omega)]
      exact Ev.bind (iok_ev2 q2 (by omega) (by omega) (by omega) (by omega)) (Ev_eq fun k => rfl)
    · refine Ev_bindE (fun k => iok_eq ..) (Ev.congr (fun k => by rw [if_pos (by simpa using h)]) (Ev_bindE (fun k => iok_eq ..) (Ev_eq fun k => ?_)))
      rw [if_neg (by simpa using h')]; simp [addL, h']
  · refine Ev_bindE (fun k => iok_eq ..) (Ev_eq fun k => ?_)
    rw [if_neg (by simpa using h)]; simp [addL, h]
theorem itimesI_ev (a b c r n : Int) : Ev (fun k => impl_TimesInterval.f k a b c r n) (timesL a b c r n) := by
  unfold impl_TimesInterval.f
  by_cases h : Ok a b c r
  · by_cases h' : -400 ≤ n ∧ n ≤ 400
    · obtain ⟨k1, k2, k3, k4⟩ := id h
      refine Ev_bindE (fun k => iok_eq ..) (Ev.congr (fun k => by rw [if_pos (by simpa using h)]) (Ev_bindE (fun k => within_eq ..) (Ev.congr (fun k => by rw [if_pos (by simpa using h')]) ?_)))
      have m1 := bd_mul2 k2 h' (by omega)
      have m2 := bd_mul2 k3 h' (by omega)
      have m3 := bd_mul2 k4 h' (by omega)
      have e : timesL a b c r n = chk (simp4 (a * n) (b * n) (c * n) r) := by unfold timesL; rw [if_pos ⟨h, h'⟩]
      rw [e, wrap_id (n := a * n) (by omega) (by omega), wrap_id (n := b * n) (by omega) (by omega), wrap_id (n := c * n) (by omega) (by omega)]
      exact Ev.bind (iok_ev2 (by omega) (by omega) (by omega) (by omega) (by omega)) (Ev_eq fun k => rfl)
    · refine Ev_bindE (fun k => iok_eq ..) (Ev.congr (fun k => by rw [if_pos (by simpa using h)]) (Ev_bindE (fun k => within_eq ..) (Ev_eq fun k => ?_)))
      rw [if_neg (by simpa using h')]; simp [timesL, h']
  · refine Ev_bindE (fun k => iok_eq ..) (Ev_eq fun k => ?_)
    rw [if_neg (by simpa using h)]; simp [timesL, h]
theorem it_l2 : ∀ (m : Nat) (out : List Int), out.length = m → m ≤ 2000000 → Dig out → ∃ r, Canon r ∧ val r = val out ∧ Ev (fun k => impl_times.l2 k out) r := by
  intro m
  induction m with
  | zero =>
    intro out hl _ hd
    obtain rfl : out = [] := List.length_eq_zero_iff.1 hl
    refine ⟨[], ⟨Dig_nil, Top_nil⟩, rfl, Ev_at1 fun k => ?_⟩
    simp [impl_times.l2]
  | succ m ih =>
    intro out hl hm hd
    have hs := take_len_succ hl
    have hw : wrap64 ((out.length : Int) - 1) = (m : Int) := by rw [wrap_id (by omega) (by omega)]; omega
    by_cases h0 : rd out (m : Int) = 0
    · obtain ⟨r, hr, hv, he⟩ := ih (out.take m) (by rw [List.length_take]; omega) (by omega) (Dig_take hd m)
      refine ⟨r, hr, ?_, Ev_round _ (fun k => ?_) he⟩
      · rw [hv]
        conv => rhs; rw [hs, val_snoc, h0]
        omega
      · simp only [impl_times.l2]
        rw [hw, if_pos (by omega), if_pos (by omega), if_pos (by omega), if_pos h0, if_pos (by omega)]
        rfl
    · refine ⟨out, ⟨hd, Top_last (by omega) (by rw [show (out.length : Int) - 1 = (m : Int) from by omega]; exact h0)⟩, rfl, Ev_at1 fun k => ?_⟩
      simp only [impl_times.l2]
      rw [hw, if_pos (by omega), if_pos (by omega), if_pos (by omega), if_neg h0]
theorem it_l1 : ∀ (f : Nat) (c : Int) (out : List Int), 0 ≤ c → c ≤ 10000000000000 → c < (10000 : Int) ^ f → Dig out → out.length + f ≤ 2000000 →
    ∃ r, Canon r ∧ val r = val out + B out.length * c ∧ Ev (fun k => impl_times.l1 k out c) r := by
  intro f
  induction f with
  | zero =>
    intro c out h0 _ h1 hd hl
    have hc : c = 0 := by simp at h1; omega
    obtain ⟨r, hr, hv, he⟩ := it_l2 out.length out rfl (by omega) hd
    refine ⟨r, hr, by rw [hv, hc]; omega, Ev_round _ (fun k => ?_) he⟩
    simp only [impl_times.l1]
    rw [if_neg (by omega)]
  | succ f ih =>
    intro c out h0 h2 h1 hd hl
    by_cases hc : c > 0
    · have hq : c / 10000 < (10000 : Int) ^ f := by rw [Int.pow_succ] at h1; exact Int.ediv_lt_of_lt_mul (by omega) h1
      obtain ⟨r, hr, hv, he⟩ := ih (c / 10000) (out ++ [c % 10000]) (by omega) (by omega) hq (Dig_snoc hd (mod_dig c)) (by simp; omega)
      refine ⟨r, hr, ?_, Ev_round _ (fun k => ?_) he⟩
      · rw [hv, val_snoc, List.length_append, List.length_singleton, B_succ, Int.mul_comm 10000, Int.mul_assoc, Int.add_assoc, ← Int.mul_add, Int.emod_add_mul_ediv]
      · obtain ⟨e1, e2⟩ := dm_nonneg (show 0 ≤ c by omega)
        simp only [impl_times.l1]
        rw [if_pos hc, if_pos (by omega), e1, e2, wrap_id (by omega) (by omega)]
    · have hc : c = 0 := by omega
      obtain ⟨r, hr, hv, he⟩ := it_l2 out.length out rfl (by omega) hd
      refine ⟨r, hr, by rw [hv, hc]; omega, Ev_round _ (fun k => ?_) he⟩
      simp only [impl_times.l1]
      rw [if_neg (by omega)]
theorem it_l0 (b : List Int) (hb : Dig b) (hl : b.length ≤ 1000000) (n : Int) (hn : 0 ≤ n ∧ n ≤ 10000000000000) : ∀ (d i : Nat) (out : List Int) (c : Int), i + d = b.length → out.length = i → Dig out → 0 ≤ c ∧ c ≤ n →
    val out + B i * c = n * val (b.take i) → ∃ r, Canon r ∧ val r = n * val b ∧ Ev (fun k => impl_times.l0 k n out c b (b.length : Int) (i : Int)) r := by
  intro d
  induction d with
  | zero =>
    intro i out c hi ho hd hc hv
    obtain ⟨r, hr, hrv, he⟩ := it_l1 5 c out hc.1 (by omega) (by omega) hd (by omega)
    refine ⟨r, hr, ?_, Ev_round _ (fun k => ?_) he⟩
    · rw [hrv, ho, hv, show i = b.length from by omega, List.take_length]
    · simp only [impl_times.l0]
      rw [if_neg (by omega)]
  | succ d ih =>
    intro i out c hi ho hd hc hv
    have hg := hb _ (rd_mem b (i : Int) (by omega) (by omega))
    have hcb := carry_bd hg hn.1 hc
    generalize hx : rd b (i : Int) * n + c = x at hcb
    obtain ⟨r, hr, hrv, he⟩ := ih (i + 1) (out ++ [x % 10000]) (x / 10000) (by omega) (by simp [ho]) (Dig_snoc hd (mod_dig x)) hcb.2.2 (by
      rw [val_snoc, ho, B_succ, take_snoc b i (by omega), val_snoc, List.length_take, Nat.min_eq_left (by omega)]
      exact mul_step hv hx.symm)
    refine ⟨r, hr, hrv, Ev_round _ (fun k => ?_) he⟩
    obtain ⟨e1, e2⟩ := dm_nonneg hcb.1
    have hm : 0 ≤ rd b (i : Int) * n := Int.mul_nonneg hg.1 hn.1
    simp only [impl_times.l0]
    rw [if_pos (by omega), if_pos (by omega), if_pos (by omega), if_pos (by omega), wrap_id (n := rd b (i : Int) * n) (by omega) (by omega), hx, wrap_id (n := x) (by omega) (by omega), e1, e2, wrap_id (n := x / 10000) (by omega) (by omega), wrap_id (n := (i : Int) + 1) (by omega) (by omega)]
    simp
theorem itimes_ev {b : List Int} (hb : Dig b) (hl : b.length ≤ 1000000) {n : Int} (hn : 0 ≤ n ∧ n ≤ 10000000000000) : ∃ r, Canon r ∧ val r = n * val b ∧ Ev (fun k => impl_times.f k b n) r := by
  have := it_l0 b hb hl n hn b.length 0 [] 0 (by omega) rfl Dig_nil (by omega) (by simp [val])
  simpa [impl_times.f] using this
theorem io_loop (a b : List Int) (ha : Dig a) (hb : Dig b) (hl : a.length = b.length) (hs : a.length ≤ 2000000) : ∀ (j : Nat), j ≤ a.length → a.drop j = b.drop j →
    Ev (fun k => impl_order.l0 k a b ((j : Int) - 1)) (cmpI (val a) (val b)) := by
  intro j
  induction j with
  | zero =>
    intro _ hd
    have e : a = b := by simpa using hd
    refine Ev_at1 fun k => ?_
    simp only [impl_order.l0]
    rw [if_neg (by omega), e, cmpI_self]
  | succ j ih =>
    intro hj hd
    have hw : ((j + 1 : Nat) : Int) - 1 = (j : Int) := by omega
    rw [hw]
    rcases Int.lt_trichotomy (rd a (j : Int)) (rd b (j : Int)) with h | h | h
    · refine Ev_at1 fun k => ?_
      simp only [impl_order.l0]
      rw [if_pos (by omega), if_pos (by omega), if_pos (by omega), if_pos (by omega), if_pos h, cmpI_lt (val_at ha hb j (by omega) (by omega) hd h)]
    · refine Ev_round _ (fun k => ?_) (ih (by omega) (by rw [drop_cons a j (by omega), drop_cons b j (by omega), h, hd]))
      simp only [impl_order.l0]
      rw [if_pos (by omega), if_pos (by omega), if_pos (by omega), if_pos (by omega), if_neg (by omega), if_neg (by omega), wrap_id (by omega) (by omega)]
    · refine Ev_at1 fun k => ?_
      simp only [impl_order.l0]
      rw [if_pos (by omega), if_pos (by omega), if_pos (by omega), if_pos (by omega), if_neg (by omega), if_pos (by omega), cmpI_gt (val_at hb ha j (by omega) (by omega) hd.symm h)]
theorem iorder_ev {a b : List Int} (ha : Canon a) (hb : Canon b) (hs : a.length ≤ 2000000) : Ev (fun k => impl_order.f k a b) (cmpI (val a) (val b)) := by
  unfold impl_order.f
  by_cases h : a.length = b.length
  · refine Ev.congr (fun k => by rw [if_pos (by omega)]) ?_
    rw [wrap_id (by omega) (by omega)]
    exact io_loop a b ha.1 hb.1 h hs a.length (Nat.le_refl _) (by rw [List.drop_length, h, List.drop_length])
  · refine Ev_eq fun k => ?_
    rw [if_neg (by omega)]
    rcases Nat.lt_or_gt_of_ne h with h1 | h1
    · rw [if_pos (by omega), cmpI_lt (Canon_len_lt ha hb h1)]
    · rw [if_neg (by omega), cmpI_gt (Canon_len_lt hb ha h1)]
theorem pow_le {p : Int} (hp : 1 ≤ p) {m n : Nat} (h : m ≤ n) : p ^ m ≤ p ^ n := by
  obtain ⟨d, rfl⟩ := Nat.le.dest h
  clear h
  induction d with
  | zero => exact Int.le_refl _
  | succ d ih =>
    have h0 : 0 ≤ p ^ (m + d) := Int.pow_nonneg (by omega)
    have : p ^ (m + d) * 1 ≤ p ^ (m + d) * p := Int.mul_le_mul_of_nonneg_left hp h0
    rw [show m + (d + 1) = (m + d) + 1 from by omega, Int.pow_succ]
    omega
/-- The factor's loop: it comes to the next product, and goes on. -/
theorem ip_l2 {p e lim : Int} (hp : 2 ≤ p ∧ p ≤ 5) {x7 : List Int} (h7 : Canon x7) (hl : x7.length ≤ 1000000) {rows : List (List Int)} {m i0 left n : Int} (hn : 0 ≤ n ∧ n ≤ 29) (hpn : p ^ n.toNat ≤ 1000000000) {r : Int → List Int → Prop} :
    ∀ (d i : Nat) (x12 : Int), (i : Int) + d = n → x12 = p ^ i → ∃ t, Canon t ∧ val t = p ^ n.toNat * val x7 ∧
      ∀ res : List Int, Ev (fun k => impl_product.l1 k t [p, e, lim] (wrap64 (left - n)) rows m i0) res → Ev (fun k => impl_product.l2 k x7 [p, e, lim] left n x12 (i : Int) rows m i0) res := by
  intro d
  induction d with
  | zero =>
    intro i x12 hi hx
    have hin : i = n.toNat := by omega
    have hpos : 0 ≤ p ^ n.toNat := Int.pow_nonneg (by omega)
    obtain ⟨t, ht, hv, he⟩ := itimes_ev h7.1 hl (n := x12) (by rw [hx, hin]; omega)
    refine ⟨t, ht, by rw [hv, hx, hin], fun res hres => Ev.step (f := fun k => (impl_times.f k x7 x12).bind fun t192 => (impl_product.l1 k t192 [p, e, lim] (wrap64 (left - n)) rows m i0)) (fun k => ?_) (Ev.bind he hres)⟩
    simp only [impl_product.l2]
    rw [if_neg (by omega)]
  | succ d ih =>
    intro i x12 hi hx
    have h1 : p ^ (i + 1) ≤ p ^ n.toNat := pow_le (by omega) (by omega)
    have h0 : 0 ≤ p ^ (i + 1) := Int.pow_nonneg (by omega)
    obtain ⟨t, ht, hv, he⟩ := ih (i + 1) (p ^ (i + 1)) (by omega) rfl
    refine ⟨t, ht, hv, fun res hres => Ev_round _ (fun k => ?_) (he res hres)⟩
    have hr : rd [p, e, lim] 0 = p := rfl
    simp only [impl_product.l2]
    rw [if_pos (by omega), if_pos (by simp), hr, hx, ← Int.pow_succ, wrap_id (n := p ^ (i + 1)) (by omega) (by omega), wrap_id (n := (i : Int) + 1) (by omega) (by omega)]
    rfl
/-- One prime's loop. -/
theorem ip_l1 {p e lim : Int} (hp : 2 ≤ p ∧ p ≤ 5) (hlim : 1 ≤ lim ∧ lim ≤ 29) (hpl : p ^ lim.toNat ≤ 1000000000) {rows : List (List Int)} {m i0 : Int} (N : Nat) (hN : N ≤ 1000000) (hi0 : 0 ≤ i0 ∧ i0 ≤ 10) :
    ∀ (f : Nat) (left : Int) (x7 : List Int), 0 ≤ left → left < f → left ≤ 1000000 → Canon x7 → p ^ left.toNat * val x7 < 2 ^ N → ∃ t, Canon t ∧ val t = p ^ left.toNat * val x7 ∧
      ∀ res : List Int, Ev (fun k => impl_product.l0 k t rows m (i0 + 1)) res → Ev (fun k => impl_product.l1 k x7 [p, e, lim] left rows m i0) res := by
  intro f
  induction f with
  | zero => intro left x7 h0 h1; omega
  | succ f ih =>
    intro left x7 h0 h1 hle h7 hv
    by_cases hz : left > 0
    · have hv0 := (val_bd h7.1).1
      have hmn : mn left lim = if lim < left then lim else left := rfl
      generalize hnn : mn left lim = n at hmn
      have hn : 1 ≤ n ∧ n ≤ left ∧ n ≤ lim := by split at hmn <;> omega
      have hsplit : p ^ left.toNat = p ^ (left - n).toNat * p ^ n.toNat := by rw [← Int.pow_add]; congr 1; omega
      have hle1 : val x7 ≤ p ^ left.toNat * val x7 := by
        have h1 : 1 ≤ p ^ left.toNat := by have := pow_le (p := p) (by omega) (Nat.zero_le left.toNat); simpa using this
        have := Int.mul_le_mul_of_nonneg_right h1 hv0
        omega
      have hl7 : x7.length ≤ 1000000 := Nat.le_trans (Canon_len h7 (Int.lt_of_le_of_lt hle1 hv)) hN
      obtain ⟨t, ht, htv, he⟩ := ip_l2 (p := p) (e := e) (lim := lim) hp h7 hl7 (rows := rows) (m := m) (i0 := i0) (left := left) (n := n) (by omega) (Int.le_trans (pow_le (by omega) (by omega)) hpl) (r := fun _ _ => True) n.toNat 0 1 (by omega) (by simp)
      have hv2 : p ^ (left - n).toNat * val t = p ^ left.toNat * val x7 := by rw [htv, hsplit, Int.mul_assoc]
      obtain ⟨u, hu, huv, hue⟩ := ih (left - n) t (by omega) (by omega) (by omega) ht (by rw [hv2]; exact hv)
      refine ⟨u, hu, by rw [huv, hv2], fun res hres => Ev_round _ (fun k => ?_) (he res ?_)⟩
      · have hr : rd [p, e, lim] 2 = lim := rfl
        simp only [impl_product.l1]
        rw [if_pos hz, if_pos (by simp), hr, hnn]
        rfl
      · rw [wrap_id (by omega) (by omega)]; exact hue res hres
    · obtain rfl : left = 0 := by omega
      refine ⟨x7, h7, by simp, fun res hres => Ev_round _ (fun k => ?_) hres⟩
      simp only [impl_product.l1]
      rw [if_neg hz, wrap_id (by omega) (by omega)]
theorem ip_l0 {rows : List (List Int)} {m : Int} (i : Nat) (x7 : List Int) (res : List Int) {p e lim : Int} (hm : m = rows.length) (hi : i < rows.length) (hr : rd_L2 rows (i : Int) = [p, e, lim])
    (h : Ev (fun k => impl_product.l1 k x7 [p, e, lim] e rows m (i : Int)) res) : Ev (fun k => impl_product.l0 k x7 rows m (i : Int)) res := by
  refine Ev_round _ (fun k => ?_) h
  simp only [impl_product.l0]
  rw [if_pos (by omega), if_pos (by omega), if_pos (by omega), hr, if_pos (by simp)]
  rfl
theorem iproduct_ev {a b c : Int} (ha : 0 ≤ a ∧ a ≤ 100000) (hb : 0 ≤ b ∧ b ≤ 100000) (hc : 0 ≤ c ∧ c ≤ 100000) : ∃ r, Canon r ∧ val r = ((num a b c : Nat) : Int) ∧ r.length ≤ 1000000 ∧ Ev (fun k => impl_product.f k a b c) r := by
  have hnum : ((num a b c : Nat) : Int) = 2 ^ a.toNat * 3 ^ b.toNat * 5 ^ c.toNat := by simp [num]
  have h3 : (3 : Nat) ^ b.toNat ≤ 2 ^ (2 * b.toNat) := by rw [Nat.pow_mul]; exact Nat.pow_le_pow_left (by omega) _
  have h5 : (5 : Nat) ^ c.toNat ≤ 2 ^ (3 * c.toNat) := by rw [Nat.pow_mul]; exact Nat.pow_le_pow_left (by omega) _
  have hN : num a b c < 2 ^ (a.toNat + 2 * b.toNat + 3 * c.toNat + 1) := by
    have h1 : num a b c ≤ 2 ^ a.toNat * 2 ^ (2 * b.toNat) * 2 ^ (3 * c.toNat) := Nat.mul_le_mul (Nat.mul_le_mul (Nat.le_refl _) h3) h5
    rw [← Nat.pow_add, ← Nat.pow_add] at h1
    exact Nat.lt_of_le_of_lt h1 (Nat.pow_lt_pow_right (by omega) (by omega))
  generalize hNe : a.toNat + 2 * b.toNat + 3 * c.toNat + 1 = N at hN
  have hNI : ((num a b c : Nat) : Int) < 2 ^ N := by exact_mod_cast hN
  have p2 : (0 : Int) < 2 ^ a.toNat := Int.pow_pos (by omega)
  have p3 : (0 : Int) < 3 ^ b.toNat := Int.pow_pos (by omega)
  have p5 : (0 : Int) < 5 ^ c.toNat := Int.pow_pos (by omega)
  have q2 : (2 : Int) ^ a.toNat ≤ 2 ^ a.toNat * 3 ^ b.toNat := by have := Int.mul_le_mul_of_nonneg_left (show 1 ≤ (3 : Int) ^ b.toNat by omega) (Int.le_of_lt p2); omega
  have q23 : (0 : Int) < 2 ^ a.toNat * 3 ^ b.toNat := Int.mul_pos p2 p3
  have q3 : (2 : Int) ^ a.toNat * 3 ^ b.toNat ≤ 2 ^ a.toNat * 3 ^ b.toNat * 5 ^ c.toNat := by have := Int.mul_le_mul_of_nonneg_left (show 1 ≤ (5 : Int) ^ c.toNat by omega) (Int.le_of_lt q23); omega
  rw [hnum] at hNI
  generalize hrows : [[2, a, 29], [3, b, 18], [5, c, 12]] = rows
  have hm : rows.length = 3 := by rw [← hrows]; rfl
  obtain ⟨t, ht, htv, he⟩ := ip_l1 (p := 2) (e := a) (lim := 29) (by omega) (by omega) (by decide) (rows := rows) (m := 3) (i0 := 0) N (by omega) (by omega) (a.toNat + 1) a [1] ha.1 (by omega) (by omega) Canon_one (by simp only [val]; omega)
  have htv' : val t = 2 ^ a.toNat := by rw [htv]; simp [val]
  obtain ⟨u, hu, huv, hue⟩ := ip_l1 (p := 3) (e := b) (lim := 18) (by omega) (by omega) (by decide) (rows := rows) (m := 3) (i0 := 1) N (by omega) (by omega) (b.toNat + 1) b t hb.1 (by omega) (by omega) ht (by rw [htv', Int.mul_comm]; omega)
  have huv' : val u = 2 ^ a.toNat * 3 ^ b.toNat := by rw [huv, htv', Int.mul_comm]
  obtain ⟨v, hv, hvv, hve⟩ := ip_l1 (p := 5) (e := c) (lim := 12) (by omega) (by omega) (by decide) (rows := rows) (m := 3) (i0 := 2) N (by omega) (by omega) (c.toNat + 1) c u hc.1 (by omega) (by omega) hu (by rw [huv', Int.mul_comm]; exact hNI)
  have hvv' : val v = 2 ^ a.toNat * 3 ^ b.toNat * 5 ^ c.toNat := by rw [hvv, huv', Int.mul_comm]
  refine ⟨v, hv, by rw [hnum, hvv'], Nat.le_trans (Canon_len hv (by rw [hvv']; exact hNI)) (by omega), ?_⟩
  have hend : Ev (fun k => impl_product.l0 k v rows 3 ((3 : Nat) : Int)) v := Ev_at1 fun k => by simp only [impl_product.l0]; rw [if_neg (by omega)]
  have r2 := ip_l0 (m := 3) 2 u v (p := 5) (e := c) (lim := 12) (by omega) (by omega) (by rw [← hrows]; rfl) (hve v hend)
  have r1 := ip_l0 (m := 3) 1 t v (p := 3) (e := b) (lim := 18) (by omega) (by omega) (by rw [← hrows]; rfl) (hue v r2)
  have r0 := ip_l0 (m := 3) 0 [1] v (p := 2) (e := a) (lim := 29) (by omega) (by omega) (by rw [← hrows]; rfl) (he v r1)
  unfold impl_product.f
  rw [hrows]
  simp only [Option.bind_some, hm]
  exact r0
theorem mx_nonneg (a : Int) : mx a 0 = ((a.toNat : Nat) : Int) := by unfold mx; split <;> omega
theorem isign_ev {a b c : Int} (ha : a.natAbs ≤ 100000) (hb : b.natAbs ≤ 100000) (hc : c.natAbs ≤ 100000) : Ev (fun k => impl_sign.f k a b c) (sg a b c) := by
  unfold impl_sign.f
  rw [wrap_id (n := -a) (by omega) (by omega), wrap_id (n := -b) (by omega) (by omega), wrap_id (n := -c) (by omega) (by omega)]
  simp only [mx_nonneg]
  obtain ⟨r, hr, hrv, hrl, he⟩ := iproduct_ev (a := ((a.toNat : Nat) : Int)) (b := ((b.toNat : Nat) : Int)) (c := ((c.toNat : Nat) : Int)) (by omega) (by omega) (by omega)
  obtain ⟨s, hs, hsv, hsl, hse⟩ := iproduct_ev (a := (((-a).toNat : Nat) : Int)) (b := (((-b).toNat : Nat) : Int)) (c := (((-c).toNat : Nat) : Int)) (by omega) (by omega) (by omega)
  have e1 : num ((a.toNat : Nat) : Int) ((b.toNat : Nat) : Int) ((c.toNat : Nat) : Int) = num a b c := by simp only [num, Int.toNat_natCast]
  have e2 : num (((-a).toNat : Nat) : Int) (((-b).toNat : Nat) : Int) (((-c).toNat : Nat) : Int) = num (-a) (-b) (-c) := by simp only [num, Int.toNat_natCast]
  have ho := iorder_ev hr hs (by omega)
  rw [hrv, hsv, e1, e2] at ho
  exact Ev.bind he (Ev.bind hse (Ev.bind ho (Ev_eq fun k => rfl)))
def cmpL (a b c r a' b' c' r' : Int) : Int := if Ok a b c r ∧ Ok a' b' c' r' then sg (a * r' - a' * r) (b * r' - b' * r) (c * r' - c' * r) else 0
theorem icmp_ev (a b c r a' b' c' r' : Int) : Ev (fun k => impl_CompareIntervals.f k a b c r a' b' c' r') (cmpL a b c r a' b' c' r') := by
  unfold impl_CompareIntervals.f
  by_cases h : Ok a b c r
  · by_cases h' : Ok a' b' c' r'
    · refine Ev_bindE (fun k => iok_eq ..) (Ev.congr (fun k => by rw [if_pos (by simpa using h)]) (Ev_bindE (fun k => iok_eq ..) (Ev.congr (fun k => by rw [if_pos (by simpa using h')]) ?_)))
      obtain ⟨k1, k2, k3, k4⟩ := id h
      obtain ⟨l1, l2, l3, l4⟩ := id h'
      have m1 := bd_mul k2 (show 0 ≤ r' ∧ r' ≤ 12 by omega) (by omega)
      have m2 := bd_mul k3 (show 0 ≤ r' ∧ r' ≤ 12 by omega) (by omega)
      have m3 := bd_mul k4 (show 0 ≤ r' ∧ r' ≤ 12 by omega) (by omega)
      have n1 := bd_mul l2 (show 0 ≤ r ∧ r ≤ 12 by omega) (by omega)
      have n2 := bd_mul l3 (show 0 ≤ r ∧ r ≤ 12 by omega) (by omega)
      have n3 := bd_mul l4 (show 0 ≤ r ∧ r ≤ 12 by omega) (by omega)
      have e : cmpL a b c r a' b' c' r' = sg (a * r' - a' * r) (b * r' - b' * r) (c * r' - c' * r) := by unfold cmpL; rw [if_pos ⟨h, h'⟩]
      rw [e, wrap_id (n := a * r') (by omega) (by omega), wrap_id (n := b * r') (by omega) (by omega), wrap_id (n := c * r') (by omega) (by omega), wrap_id (n := a' * r) (by omega) (by omega), wrap_id (n := b' * r) (by omega) (by omega), wrap_id (n := c' * r) (by omega) (by omega),
        wrap_id (n := a * r' - a' * r) (by omega) (by omega), wrap_id (n := b * r' - b' * r) (by omega) (by omega), wrap_id (n := c * r' - c' * r) (by omega) (by omega)]
      exact Ev.bind (isign_ev (by omega) (by omega) (by omega)) (Ev_eq fun k => rfl)
    · refine Ev_bindE (fun k => iok_eq ..) (Ev.congr (fun k => by rw [if_pos (by simpa using h)]) (Ev_bindE (fun k => iok_eq ..) (Ev_eq fun k => ?_)))
      rw [if_neg (by simpa using h')]; simp [cmpL, h']
  · refine Ev_bindE (fun k => iok_eq ..) (Ev_eq fun k => ?_)
    rw [if_neg (by simpa using h)]; simp [cmpL, h]
def betL (a b c r a' b' c' r' a'' b'' c'' r'' : Int) : Bool :=
  decide (Ok a b c r ∧ Ok a' b' c' r' ∧ Ok a'' b'' c'' r'' ∧ 0 ≤ cmpL a b c r a' b' c' r' ∧ cmpL a b c r a'' b'' c'' r'' ≤ 0)
theorem ibet_ev (a b c r a' b' c' r' a'' b'' c'' r'' : Int) : Ev (fun k => impl_IsBetween.f k a b c r a' b' c' r' a'' b'' c'' r'') (betL a b c r a' b' c' r' a'' b'' c'' r'') := by
  unfold impl_IsBetween.f
  by_cases h : Ok a b c r
  · refine Ev_bindE (fun k => iok_eq ..) (Ev.congr (fun k => by rw [if_pos (by simpa using h)]) ?_)
    by_cases h' : Ok a' b' c' r'
    · refine Ev_bindE (fun k => iok_eq ..) (Ev.congr (fun k => by rw [if_pos (by simpa using h')]) ?_)
      by_cases h'' : Ok a'' b'' c'' r''
      · refine Ev_bindE (fun k => iok_eq ..) (Ev.congr (fun k => by rw [if_pos (by simpa using h'')]) (Ev.bind (icmp_ev ..) ?_))
        by_cases g : cmpL a b c r a' b' c' r' ≥ 0
        · refine Ev.congr (fun k => by rw [if_pos g]) (Ev.bind (icmp_ev ..) (Ev_eq fun k => ?_))
          simp [betL, h, h', h'']; omega
        · refine Ev_eq fun k => ?_
          rw [if_neg g]; simp [betL]; omega
      · refine Ev_bindE (fun k => iok_eq ..) (Ev_eq fun k => ?_)
        rw [if_neg (by simpa using h'')]; simp [betL, h'']
    · refine Ev_bindE (fun k => iok_eq ..) (Ev_eq fun k => ?_)
      rw [if_neg (by simpa using h')]; simp [betL, h']
  · refine Ev_bindE (fun k => iok_eq ..) (Ev_eq fun k => ?_)
    rw [if_neg (by simpa using h)]; simp [betL, h]
def signL (a b c r : Int) : Int := if Ok a b c r then sg a b c else 0
theorem isignof_ev (a b c r : Int) : Ev (fun k => impl_SignOf.f k a b c r) (signL a b c r) := by
  unfold impl_SignOf.f
  by_cases o : Ok a b c r
  · obtain ⟨o1, o2, o3, o4⟩ := id o
    have e : signL a b c r = sg a b c := by unfold signL; rw [if_pos o]
    rw [e]
    exact Ev_bindE (fun k => iok_eq ..) (Ev.congr (fun k => by rw [if_pos (by simpa using o)]) (Ev.bind (isign_ev (by omega) (by omega) (by omega)) (Ev_eq fun k => rfl)))
  · exact Ev_bindE (fun k => iok_eq ..) (Ev_eq fun k => by rw [if_neg (by simpa using o)]; simp [signL, o])
theorem and255 (x : Int) : 0 ≤ Go.bits .and .i64 x 255 ∧ Go.bits .and .i64 x 255 ≤ 255 := by
  have h : ((BitVec.ofInt 64 x) &&& (BitVec.ofInt 64 255)).toNat ≤ 255 := by
    rw [BitVec.toNat_and]; exact Nat.le_trans Nat.and_le_right (by decide)
  have e : Go.bits .and .i64 x 255 = IntKind.i64.wrap ((((BitVec.ofInt 64 x) &&& (BitVec.ofInt 64 255)).toNat : Nat) : Int) := rfl
  rw [e]
  generalize ((BitVec.ofInt 64 x) &&& (BitVec.ofInt 64 255)).toNat = n at *
  have : IntKind.i64.wrap (n : Int) = n := by
    have h1 : ((n : Nat) : Int) % (2 ^ 64 : Int) = n := Int.emod_eq_of_lt (by omega) (by omega)
    simp only [IntKind.wrap, IntKind.signed, IntKind.bits, h1]
    rw [if_neg (by simp; omega)]
  omega
def Cur (l : List Int) (i : Int) : Prop := l.length ≤ 1048576 ∧ 0 ≤ i ∧ i ≤ (l.length : Int)
theorem new_loop (l : List Int) (hl : l.length ≤ 1048576) : ∀ (d i : Nat) (h : Int), i + d = l.length → ∃ h', Ev (fun k => spec_l01New.l0 k l h (i : Int)) (l, 0, h') := by
  intro d
  induction d with
  | zero =>
    intro i h hi
    refine ⟨h, Ev_at1 fun k => ?_⟩
    simp only [spec_l01New.l0]
    rw [if_neg (by omega)]
  | succ d ih =>
    intro i h hi
    by_cases hs : (i : Int) < 4000
    · obtain ⟨h', he⟩ := ih (i + 1) (Go.bits .and .i64 (wrap64 ((wrap64 ((wrap64 (h * 131)) + (wrap64 (rd l (i : Int))))) + 7)) 1073741823) (by omega)
      refine ⟨h', Ev_round _ (fun k => ?_) he⟩
      simp only [spec_l01New.l0]
      rw [if_pos (by omega), if_pos hs, if_pos (by omega), wrap_id (n := (i : Int) + 1) (by omega) (by omega)]
      simp
    · refine ⟨h, Ev_at1 fun k => ?_⟩
      simp only [spec_l01New.l0]
      rw [if_pos (by omega), if_neg hs]
theorem new_ev (l : List Int) (hl : l.length ≤ 1048576) : ∃ h, Ev (fun k => spec_l01New.f k l) (l, 0, h) := by
  obtain ⟨h, he⟩ := new_loop l hl l.length 0 (wrap64 (98939 + (l.length : Int))) (by simp)
  exact ⟨h, by simpa [spec_l01New.f] using he⟩
theorem cur0 (l : List Int) (hl : l.length ≤ 1048576) : Cur l 0 := ⟨hl, by omega, by omega⟩
theorem byte_some {l : List Int} {i : Int} (h : Int) (c : Cur l i) : ∃ v i' h', spec_l01Byte.f l i h = some (v, i', h') ∧ Cur l i' ∧ 0 ≤ v ∧ v ≤ 255 := by
  obtain ⟨c0, c1, c2⟩ := c
  unfold spec_l01Byte.f
  by_cases hi : i < (l.length : Int)
  · rw [if_pos hi, if_pos c1, wrap_id (n := i + 1) (by omega) (by omega)]
    exact ⟨_, _, _, rfl, ⟨c0, by omega, by omega⟩, and255 _⟩
  · rw [if_neg hi]
    exact ⟨_, _, _, rfl, ⟨c0, c1, c2⟩, and255 _⟩
theorem tmod_lt_pos {x n : Int} (hx : 0 ≤ x) (hn : 0 < n) : 0 ≤ x.tmod n ∧ x.tmod n < n := by
  rw [Int.tmod_eq_emod_of_nonneg hx]
  exact ⟨Int.emod_nonneg _ (by omega), Int.emod_lt_of_pos _ hn⟩
theorem below_some {l : List Int} {i : Int} (h : Int) (n : Int) (c : Cur l i) : ∃ v i' h', spec_l01Below.f l i h n = some (v, i', h') ∧ Cur l i' ∧ 0 ≤ v ∧ (0 < n → v < n) ∧ (n ≤ 0 → v = 0) := by
  unfold spec_l01Below.f
  by_cases h0 : n ≤ 0
  · rw [if_pos h0]; exact ⟨_, _, _, rfl, c, by omega, by omega, by omega⟩
  · rw [if_neg h0]
    by_cases h1 : n ≤ 256
    · obtain ⟨v, i', h', e, c', v0, v1⟩ := byte_some h c
      rw [if_pos h1, e, Option.bind_some, if_neg (by omega)]
      have := tmod_lt_pos v0 (show 0 < n by omega)
      exact ⟨_, _, _, rfl, c', this.1, fun _ => this.2, by omega⟩
    · rw [if_neg h1]
      obtain ⟨x, i1, h1, e1, c1, x0, x1⟩ := byte_some h c
      obtain ⟨y, i2, h2, e2, c2, y0, y1⟩ := byte_some h1 c1
      obtain ⟨z, i3, h3, e3, c3, z0, z1⟩ := byte_some h2 c2
      obtain ⟨w, i4, h4, e4, c4, w0, w1⟩ := byte_some h3 c3
      simp only [e1, e2, e3, e4, Option.bind_some]
      rw [if_neg (by omega), wrap_id (n := x * 16777216) (by omega) (by omega), wrap_id (n := y * 65536) (by omega) (by omega), wrap_id (n := z * 256) (by omega) (by omega), wrap_id (n := x * 16777216 + y * 65536) (by omega) (by omega), wrap_id (n := x * 16777216 + y * 65536 + z * 256) (by omega) (by omega), wrap_id (by omega) (by omega)]
      have := tmod_lt_pos (x := x * 16777216 + y * 65536 + z * 256 + w) (by omega) (show 0 < n by omega)
      exact ⟨_, _, _, rfl, c4, this.1, fun _ => this.2, by omega⟩
theorem pickInt_some {l : List Int} {i : Int} (h : Int) (m : List Int) (hm : m ≠ []) (c : Cur l i) : ∃ v i' h', spec_l01PickInt.f l i h m = some (v, i', h') ∧ Cur l i' ∧ v ∈ m := by
  have hp : 0 < m.length := List.length_pos_iff.2 hm
  obtain ⟨v, i', h', e, c', v0, v1, _⟩ := below_some h (m.length : Int) c
  have v1 := v1 (by omega)
  unfold spec_l01PickInt.f
  rw [e, Option.bind_some, if_pos v0, if_pos v1]
  exact ⟨_, _, _, rfl, c', rd_mem m v v0 v1⟩
theorem interval_some {l : List Int} {i : Int} (h : Int) (c : Cur l i) : ∃ a b d r i' h', spec_l03Interval.f l i h = some (a, b, d, r, i', h') ∧ Cur l i' ∧ (-12 ≤ a ∧ a ≤ 12) ∧ (-6 ≤ b ∧ b ≤ 6) ∧ (-3 ≤ d ∧ d ≤ 3) ∧ (r = 1 ∨ r = 2 ∨ r = 4 ∨ r = 12) := by
  obtain ⟨x, i1, h1, e1, c1, x0, x1, _⟩ := below_some h 25 c
  obtain ⟨y, i2, h2, e2, c2, y0, y1, _⟩ := below_some h1 13 c1
  obtain ⟨z, i3, h3, e3, c3, z0, z1, _⟩ := below_some h2 7 c2
  obtain ⟨r, i4, h4, e4, c4, hr⟩ := pickInt_some h3 [1, 1, 1, 2, 4, 12] (by simp) c3
  have x1 := x1 (by omega)
  have y1 := y1 (by omega)
  have z1 := z1 (by omega)
  unfold spec_l03Interval.f
  simp only [e1, e2, e3, e4, Option.bind_some]
  refine ⟨_, _, _, _, _, _, rfl, c4, ?_, ?_, ?_, ?_⟩
  · rw [wrap_id (by omega) (by omega)]; omega
  · rw [wrap_id (by omega) (by omega)]; omega
  · rw [wrap_id (by omega) (by omega)]; omega
  · simp only [List.mem_cons, List.not_mem_nil, or_false] at hr; omega
def Drawn (a b c r : Int) : Prop := (-12 ≤ a ∧ a ≤ 12) ∧ (-6 ≤ b ∧ b ≤ 6) ∧ (-3 ≤ c ∧ c ≤ 3) ∧ (r = 1 ∨ r = 2 ∨ r = 4 ∨ r = 12)
theorem Drawn.ok {a b c r : Int} (h : Drawn a b c r) : Ok a b c r := by
  obtain ⟨h1, h2, h3, h4⟩ := h
  exact ⟨by omega, by omega, by omega, by omega⟩
theorem intervals_ev (l : List Int) (hl : l.length ≤ 1048576) : ∃ a b c r a' b' c' r' a'' b'' c'' r'', Ev (fun k => spec_DrawIntervals.f k l) (a, b, c, r, a', b', c', r', a'', b'', c'', r'') ∧ Drawn a b c r ∧ Drawn a' b' c' r' ∧ Drawn a'' b'' c'' r'' := by
  obtain ⟨h, he⟩ := new_ev l hl
  obtain ⟨a, b, c, r, i1, h1, e1, c1, p1⟩ := interval_some h (cur0 l hl)
  obtain ⟨a', b', c', r', i2, h2, e2, c2, p2⟩ := interval_some h1 c1
  obtain ⟨a'', b'', c'', r'', i3, h3, e3, c3, p3⟩ := interval_some h2 c2
  refine ⟨a, b, c, r, a', b', c', r', a'', b'', c'', r'', ?_, p1, p2, p3⟩
  unfold spec_DrawIntervals.f
  refine Ev.bind he (Ev_eq fun k => ?_)
  simp only [e1, e2, e3, Option.bind_some]
theorem big_eq (l : List Int) : laws_big.f l = some (decide ((l.length : Int) > 1048576)) := rfl
theorem sg_scale {k m a b c a' b' c' : Int} (hk : 0 < k) (hm : 0 < m) (h1 : k * a = m * a') (h2 : k * b = m * b') (h3 : k * c = m * c') : sg a b c = sg a' b' c' := by
  rw [← sg_mul hk a b c, h1, h2, h3, sg_mul hm]
theorem cmpL_eq {a b c r a' b' c' r' : Int} (h : Ok a b c r) (h' : Ok a' b' c' r') : cmpL a b c r a' b' c' r' = sg (a * r' - a' * r) (b * r' - b' * r) (c * r' - c' * r) := by unfold cmpL; rw [if_pos ⟨h, h'⟩]
theorem cmpL_neg {a b c r a' b' c' r' : Int} (h : Ok a b c r) (h' : Ok a' b' c' r') : cmpL a' b' c' r' a b c r = -cmpL a b c r a' b' c' r' := by
  rw [cmpL_eq h h', cmpL_eq h' h, ← sg_neg, Int.neg_sub, Int.neg_sub, Int.neg_sub]
theorem cmpL_self {a b c r : Int} (h : Ok a b c r) : cmpL a b c r a b c r = 0 := by
  rw [cmpL_eq h h, Int.sub_self, Int.sub_self, Int.sub_self, sg_zero]
theorem cmpL_vals (a b c r a' b' c' r' : Int) : cmpL a b c r a' b' c' r' = -1 ∨ cmpL a b c r a' b' c' r' = 0 ∨ cmpL a b c r a' b' c' r' = 1 := by
  unfold cmpL; split
  · exact sg_vals _ _ _
  · omega
theorem cmpL_trans {a b c r a' b' c' r' a'' b'' c'' r'' : Int} (o : Ok a b c r) (o' : Ok a' b' c' r') (o'' : Ok a'' b'' c'' r'') (h : 0 ≤ cmpL a b c r a' b' c' r') (h' : 0 ≤ cmpL a' b' c' r' a'' b'' c'' r'') : 0 ≤ cmpL a b c r a'' b'' c'' r'' := by
  have p := o.pos; have p' := o'.pos; have p'' := o''.pos
  rw [cmpL_eq o o'] at h
  rw [cmpL_eq o' o''] at h'
  rw [cmpL_eq o o'']
  rw [← sg_mul p''] at h
  rw [← sg_mul p] at h'
  have := sg_add_nonneg h h'
  rw [← sg_mul p']
  have e : ∀ x x' x'' : Int, r' * (x * r'' - x'' * r) = r'' * (x * r' - x' * r) + r * (x' * r'' - x'' * r') := fun x x' x'' => by grind
  rw [e a a' a'', e b b' b'', e c c' c'']
  exact this
theorem cmpL_trans' {a b c r a' b' c' r' a'' b'' c'' r'' : Int} (o : Ok a b c r) (o' : Ok a' b' c' r') (o'' : Ok a'' b'' c'' r'') (h : cmpL a b c r a' b' c' r' ≤ 0) (h' : cmpL a' b' c' r' a'' b'' c'' r'' ≤ 0) : cmpL a b c r a'' b'' c'' r'' ≤ 0 := by
  have := cmpL_trans o'' o' o (by rw [cmpL_neg o' o'']; omega) (by rw [cmpL_neg o o']; omega)
  rw [cmpL_neg o o''] at this; omega
theorem sub_sign {a b c r a' b' c' r' n1 n2 n3 n4 d1 d2 d3 d4 : Int} (o : Ok a b c r) (o' : Ok a' b' c' r') (pn : 0 < n4) (an1 : a' * -1 * n4 = n1 * r') (an2 : b' * -1 * n4 = n2 * r') (an3 : c' * -1 * n4 = n3 * r')
    (hd : addL a b c r n1 n2 n3 n4 = (d1, d2, d3, d4, true)) : signL d1 d2 d3 d4 = cmpL a b c r a' b' c' r' := by
  obtain ⟨_, _, od, _, e1, e2, e3⟩ := addL_inv hd
  simp only at e1 e2 e3
  have p := o.pos; have p' := o'.pos; have pd := od.pos
  rw [signL, if_pos od, cmpL_eq o o']
  have h1 : sg d1 d2 d3 = sg (a * n4 + n1 * r) (b * n4 + n2 * r) (c * n4 + n3 * r) :=
    sg_scale (Int.mul_pos p pn) pd (by rw [Int.mul_comm, ← e1, Int.mul_comm]) (by rw [Int.mul_comm, ← e2, Int.mul_comm]) (by rw [Int.mul_comm, ← e3, Int.mul_comm])
  rw [h1]
  exact sg_scale p' pn (by grind) (by grind) (by grind)
/-- The greatest of three. -/
def gr (l : List S25) (best i : Int) : Int := if cmpL (rd_T25 l i).f0 (rd_T25 l i).f1 (rd_T25 l i).f2 (rd_T25 l i).f3 (rd_T25 l best).f0 (rd_T25 l best).f1 (rd_T25 l best).f2 (rd_T25 l best).f3 > 0 then i else best
theorem gr_step (l : List S25) (hl : l.length = 3) (best i : Int) (hb : 0 ≤ best ∧ best < 3) (hi : 0 ≤ i ∧ i < 3) {v : Int} (h : Ev (fun k => impl_GreatestOf.l1 k l (gr l best i) l 3 (i + 1)) v) : Ev (fun k => impl_GreatestOf.l1 k l best l 3 i) v := by
  refine Ev_round (fun k => (impl_CompareIntervals.f k (rd_T25 l i).f0 (rd_T25 l i).f1 (rd_T25 l i).f2 (rd_T25 l i).f3 (rd_T25 l best).f0 (rd_T25 l best).f1 (rd_T25 l best).f2 (rd_T25 l best).f3).bind fun t => if t > 0 then impl_GreatestOf.l1 k l i l 3 (i + 1) else impl_GreatestOf.l1 k l best l 3 (i + 1)) (fun k => ?_) (Ev.bind (icmp_ev ..) ?_)
  · rw [impl_GreatestOf.l1, if_pos (by omega), if_pos (by omega), if_pos (by omega), if_pos (by omega), if_pos (by omega), wrap_id (by omega) (by omega)]
  · unfold gr at h
    by_cases c : cmpL (rd_T25 l i).f0 (rd_T25 l i).f1 (rd_T25 l i).f2 (rd_T25 l i).f3 (rd_T25 l best).f0 (rd_T25 l best).f1 (rd_T25 l best).f2 (rd_T25 l best).f3 > 0
    · rw [if_pos c] at h; exact Ev.congr (fun k => if_pos c) h
    · rw [if_neg c] at h; exact Ev.congr (fun k => if_neg c) h
theorem ok_step (l : List S25) (hl : l.length = 3) (i : Int) (hi : 0 ≤ i ∧ i < 3) (o : Ok (rd_T25 l i).f0 (rd_T25 l i).f1 (rd_T25 l i).f2 (rd_T25 l i).f3) {v : Int} (h : Ev (fun k => impl_GreatestOf.l0 k l l 3 (i + 1)) v) : Ev (fun k => impl_GreatestOf.l0 k l l 3 i) v := by
  refine Ev_round _ (fun k => ?_) h
  rw [impl_GreatestOf.l0, if_pos (by omega), if_pos (by omega), if_pos (by omega), iok_eq, Option.bind_some, if_pos (by simpa using o), wrap_id (by omega) (by omega)]
theorem gr_bd (l : List S25) (best i : Int) (hb : 0 ≤ best ∧ best < 3) (hi : 0 ≤ i ∧ i < 3) : 0 ≤ gr l best i ∧ gr l best i < 3 := by
  unfold gr; split <;> omega
theorem greatest_ev (l : List S25) (hl : l.length = 3) (o : ∀ i : Int, 0 ≤ i ∧ i < 3 → Ok (rd_T25 l i).f0 (rd_T25 l i).f1 (rd_T25 l i).f2 (rd_T25 l i).f3) : Ev (fun k => impl_GreatestOf.f k l) (gr l (gr l (gr l 0 0) 1) 2) := by
  unfold impl_GreatestOf.f
  have hl' : (l.length : Int) = 3 := by omega
  rw [hl']
  refine Ev.congr (f := fun k => impl_GreatestOf.j0 k l false) (fun k => by rw [if_neg (by omega)]; congr 1) (Ev_round (fun k => impl_GreatestOf.l0 k l l 3 0) (fun k => by rw [impl_GreatestOf.j0, if_neg (by decide), hl']) ?_)
  refine ok_step l hl 0 (by omega) (o 0 (by omega)) (ok_step l hl 1 (by omega) (o 1 (by omega)) (ok_step l hl 2 (by omega) (o 2 (by omega)) ?_))
  refine Ev_round (fun k => impl_GreatestOf.l1 k l 0 l 3 0) (fun k => by rw [impl_GreatestOf.l0, if_neg (by omega), hl']) ?_
  have b0 := gr_bd l 0 0 (by omega) (by omega)
  have b1 := gr_bd l (gr l 0 0) 1 b0 (by omega)
  refine gr_step l hl 0 0 (by omega) (by omega) (gr_step l hl _ 1 b0 (by omega) (gr_step l hl _ 2 b1 (by omega) (Ev_at1 fun k => ?_)))
  rw [impl_GreatestOf.l1, if_neg (by omega)]
theorem j1_ev {a b c r a' b' c' r' a'' b'' c'' r'' : Int} (o : Ok a b c r) (o' : Ok a' b' c' r') (o'' : Ok a'' b'' c'' r'') :
    Ev (fun k => laws_FnOrder.j1 k (cmpL a b c r a' b' c' r') (cmpL a' b' c' r' a'' b'' c'' r'') false a b c r a' b' c' r' a'' b'' c'' r'') true := by
  have hg := greatest_ev [(⟨a, b, c, r⟩ : S25), ⟨a', b', c', r'⟩, ⟨a'', b'', c'', r''⟩] rfl (fun i hi => by
    have : i = 0 ∨ i = 1 ∨ i = 2 := by omega
    rcases this with rfl | rfl | rfl
    · exact o
    · exact o'
    · exact o'')
  generalize hl : [(⟨a, b, c, r⟩ : S25), ⟨a', b', c', r'⟩, ⟨a'', b'', c'', r''⟩] = l at hg
  have r0 : rd_T25 l 0 = ⟨a, b, c, r⟩ := by rw [← hl]; rfl
  have r1 : rd_T25 l 1 = ⟨a', b', c', r'⟩ := by rw [← hl]; rfl
  have r2 : rd_T25 l 2 = ⟨a'', b'', c'', r''⟩ := by rw [← hl]; rfl
  have hlen : l.length = 3 := by rw [← hl]; rfl
  generalize hgv : gr l (gr l (gr l 0 0) 1) 2 = g at hg
  have hb : 0 ≤ g ∧ g < 3 := by
    rw [← hgv]; exact gr_bd l _ 2 (gr_bd l _ 1 (gr_bd l 0 0 (by omega) (by omega)) (by omega)) (by omega)
  have hge : 0 ≤ cmpL (rd_T25 l g).f0 (rd_T25 l g).f1 (rd_T25 l g).f2 (rd_T25 l g).f3 a b c r := by
    have e0 : gr l 0 0 = 0 := by unfold gr; split <;> rfl
    rw [e0] at hgv
    by_cases c1 : cmpL a' b' c' r' a b c r > 0
    · have e1 : gr l 0 1 = 1 := by unfold gr; rw [r0, r1]; exact if_pos c1
      rw [e1] at hgv
      by_cases c2 : cmpL a'' b'' c'' r'' a' b' c' r' > 0
      · have e2 : gr l 1 2 = 2 := by unfold gr; rw [r1, r2]; exact if_pos c2
        rw [e2] at hgv; subst hgv; rw [r2]
        show 0 ≤ cmpL a'' b'' c'' r'' a b c r
        exact cmpL_trans o'' o' o (by omega) (by omega)
      · have e2 : gr l 1 2 = 1 := by unfold gr; rw [r1, r2]; exact if_neg c2
        rw [e2] at hgv; subst hgv; rw [r1]
        show 0 ≤ cmpL a' b' c' r' a b c r
        omega
    · have e1 : gr l 0 1 = 0 := by unfold gr; rw [r0, r1]; exact if_neg c1
      rw [e1] at hgv
      by_cases c2 : cmpL a'' b'' c'' r'' a b c r > 0
      · have e2 : gr l 0 2 = 2 := by unfold gr; rw [r0, r2]; exact if_pos c2
        rw [e2] at hgv; subst hgv; rw [r2]
        show 0 ≤ cmpL a'' b'' c'' r'' a b c r
        omega
      · have e2 : gr l 0 2 = 0 := by unfold gr; rw [r0, r2]; exact if_neg c2
        rw [e2] at hgv; subst hgv; rw [r0]
        show 0 ≤ cmpL a b c r a b c r
        rw [cmpL_self o]; omega
  have hbet := ibet_ev a' b' c' r' a b c r a'' b'' c'' r''
  have ebet : betL a' b' c' r' a b c r a'' b'' c'' r'' = (decide (cmpL a b c r a' b' c' r' ≤ 0) && decide (cmpL a' b' c' r' a'' b'' c'' r'' ≤ 0)) := by
    unfold betL
    rw [cmpL_neg o o', Bool.eq_iff_iff]
    simp only [Bool.and_eq_true, decide_eq_true_eq]
    constructor
    · rintro ⟨_, _, _, h1, h2⟩; exact ⟨by omega, h2⟩
    · rintro ⟨h1, h2⟩; exact ⟨o', o, o'', by omega, h2⟩
  rw [ebet] at hbet
  refine Ev_round (fun k => (impl_GreatestOf.f k l).bind fun t311 => (if t311 ≥ 0 then (if t311 < 3 then ((some l).bind fun y312 => (if 0 ≤ t311 then (if t311 < (y312.length : Int) then ((impl_CompareIntervals.f k ((rd_T25 y312 t311).f0) ((rd_T25 y312 t311).f1) ((rd_T25 y312 t311).f2) ((rd_T25 y312 t311).f3) a b c r).bind fun t316 => (if t316 ≥ 0 then ((impl_IsBetween.f k a' b' c' r' a b c r a'' b'' c'' r'').bind fun t317 => (if (cmpL a b c r a' b' c' r') ≤ 0 then (some (t317 == (decide ((cmpL a' b' c' r' a'' b'' c'' r'') ≤ 0)))) else (some (t317 == false)))) else (some false))) else (none)) else (none))) else (some false)) else (some false))) (fun k => by rw [laws_FnOrder.j1, if_neg (by decide), hl]) (Ev.bind hg ?_)
  refine Ev.congr (fun k => by rw [if_pos hb.1, if_pos hb.2, Option.bind_some, if_pos hb.1, if_pos (by omega)]) (Ev.bind (icmp_ev ..) (Ev.congr (fun k => if_pos hge) (Ev.bind hbet (Ev_eq fun k => ?_))))
  by_cases h : cmpL a b c r a' b' c' r' ≤ 0
  · rw [if_pos h]; simp [h]
  · rw [if_neg h]; simp [h]
theorem j0_ev {a b c r a' b' c' r' a'' b'' c'' r'' : Int} (o : Ok a b c r) (o' : Ok a' b' c' r') (o'' : Ok a'' b'' c'' r'') :
    Ev (fun k => laws_FnOrder.j0 k (cmpL a b c r a' b' c' r') (cmpL a' b' c' r' a'' b'' c'' r'') (cmpL a b c r a'' b'' c'' r'') false a b c r a' b' c' r' a'' b'' c'' r'') true := by
  have hj := j1_ev o o' o''
  have t1 := cmpL_trans o o' o''
  have t2 := cmpL_trans' o o' o''
  generalize cmpL a b c r a' b' c' r' = x at hj t1 t2 ⊢
  generalize cmpL a' b' c' r' a'' b'' c'' r'' = y at hj t1 t2 ⊢
  generalize cmpL a b c r a'' b'' c'' r'' = z at t1 t2 ⊢
  refine Ev_round _ (fun k => ?_) hj
  rw [laws_FnOrder.j0, if_neg (by decide)]
  have q1 : x ≥ 0 → y ≥ 0 → decide (z < 0) = false := fun p q => decide_eq_false (by have := t1 p q; omega)
  by_cases h1 : x ≤ 0
  · rw [if_pos h1]
    by_cases h2 : y ≤ 0
    · rw [if_pos h2, if_neg (by have := t2 h1 h2; omega)]
      by_cases h3 : x ≥ 0
      · rw [if_pos h3]
        by_cases h4 : y ≥ 0
        · rw [if_pos h4, q1 h3 h4]
        · rw [if_neg h4]
      · rw [if_neg h3]
    · rw [if_neg h2]
      by_cases h3 : x ≥ 0
      · rw [if_pos h3]
        by_cases h4 : y ≥ 0
        · rw [if_pos h4, q1 h3 h4]
        · rw [if_neg h4]
      · rw [if_neg h3]
  · rw [if_neg h1]
    by_cases h3 : x ≥ 0
    · rw [if_pos h3]
      by_cases h4 : y ≥ 0
      · rw [if_pos h4, q1 h3 h4]
      · rw [if_neg h4]
    · rw [if_neg h3]
theorem main : laws_FnOrder.Pure := by
  intro l hl1 hl2 hl3
  refine Ev.rounds ?_
  unfold laws_FnOrder.f
  by_cases hb : (l.length : Int) > 1048576
  · exact Ev_eq fun k => by simp [big_eq, hb]
  obtain ⟨a, b, c, r, a', b', c', r', a'', b'', c'', r'', he, d1, d2, d3⟩ := intervals_ev l (by omega)
  have o := d1.ok; have o' := d2.ok; have o'' := d3.ok
  have p' := o'.pos
  obtain ⟨n1, n2, n3, n4, hn, hn', on, ⟨an1, an2, an3⟩, pn⟩ := chk_to (a := a' * -1) (b := b' * -1) (c := c' * -1) (r := r') (A := a' * -1) (B := b' * -1) (C := c' * -1) (R := r') p' (Alike.refl _) (by obtain ⟨w1, w2, w3, w4⟩ := o'; exact ⟨w1, by omega, by omega, by omega⟩)
  simp only at an1 an2 an3
  have c1 := itimesI_ev a' b' c' r' (-1)
  rw [timesL_eq o' (by omega), hn] at c1
  have c2 := iadd_ev a b c r n1 n2 n3 n4
  have hneg : wrap64 (-(cmpL a' b' c' r' a b c r)) = cmpL a b c r a' b' c' r' := by
    have v := cmpL_vals a b c r a' b' c' r'
    rw [cmpL_neg o o', Int.neg_neg, wrap_id (by omega) (by omega)]
  have hj := j0_ev o o' o''
  refine Ev.congr (fun k => by rw [big_eq, Option.bind_some, if_neg (by simpa using hb)]) (Ev.bind he (Ev.bind (icmp_ev ..) (Ev.bind (icmp_ev ..) (Ev.bind (icmp_ev ..) (Ev.bind c1 (Ev.bind c2 ?_))))))
  simp only
  generalize hD : addL a b c r n1 n2 n3 n4 = D
  obtain ⟨x1, x2, x3, x4, two⟩ := D
  have last : Ev (fun k => (impl_CompareIntervals.f k a' b' c' r' a b c r).bind fun t => laws_FnOrder.j0 k (cmpL a b c r a' b' c' r') (cmpL a' b' c' r' a'' b'' c'' r'') (cmpL a b c r a'' b'' c'' r'') (cmpL a b c r a' b' c' r' != wrap64 (-t)) a b c r a' b' c' r' a'' b'' c'' r'') true :=
    Ev.bind (icmp_ev ..) (Ev.congr (fun k => by rw [hneg, bne_self_eq_false]) hj)
  cases two with
  | false => exact Ev.congr (fun k => by rw [if_pos trivial, if_neg (by simp)]) last
  | true =>
    have hs := isignof_ev x1 x2 x3 x4
    rw [sub_sign o o' pn an1 an2 an3 hD] at hs
    exact Ev.congr (fun k => by rw [if_pos trivial, if_pos rfl]) (Ev.bind hs (Ev.congr (fun k => if_pos rfl) last))

end Go.Proofs.Ytfimodphnfejdaa.PureFnOrder
namespace Go.Proofs.Ytfimodphnfejdaa.Pure
theorem FnOrder : Go.Proofs.Ytfimodphnfejdaa.PFnOrder.laws_FnOrder.Pure := Go.Proofs.Ytfimodphnfejdaa.PureFnOrder.main
end Go.Proofs.Ytfimodphnfejdaa.Pure
