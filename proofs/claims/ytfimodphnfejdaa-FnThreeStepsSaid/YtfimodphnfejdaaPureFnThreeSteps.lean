/- The law FnThreeSteps returns true for all byte slices (it reads two small numbers from them: 169 chains of fifths, each looked at whole). -/
import Derived.Test.YtfimodphnfejdaaQFnThreeStepsy9
import Derived.Test.YtfimodphnfejdaaM0
import Derived.Test.YtfimodphnfejdaaM1
import Derived.Test.YtfimodphnfejdaaM2
import Derived.Test.YtfimodphnfejdaaM3
namespace Go.Proofs.Ytfimodphnfejdaa.PureFnThreeSteps
open Go Go.RowKit Go.Proofs.Ytfimodphnfejdaa.PFnThreeSteps Go.Proofs.Ytfimodphnfejdaa.My Go.Proofs.YtfimodphnfejdaaW.PrintWords Go.Proofs.YtfimodphnfejdaaW.PrintLast Go.Proofs.YtfimodphnfejdaaW.PrintMore
set_option linter.unusedVariables false
set_option linter.unusedSimpArgs false
theorem within_eq (a b c : Int) : impl_within.f a b c = some (decide (b ≤ a ∧ a ≤ c)) := by
  unfold impl_within.f
  by_cases h : b ≤ a <;> simp [h]
theorem iok_eq (a b c r : Int) : impl_IntervalOk.f a b c r = some (decide (Ok a b c r)) := by
  simp only [impl_IntervalOk.f, within_eq, Option.bind_some, Ok]
  by_cases h1 : 1 ≤ r ∧ r ≤ 12 <;> by_cases h2 : -400 ≤ a ∧ a ≤ 400 <;> by_cases h3 : -400 ≤ b ∧ b ≤ 400 <;> simp [h1, h2, h3]
theorem idiv_loop (n : Nat) : ∀ (a b : Int), b.natAbs < n → a.natAbs ≤ 1000000000 → b.natAbs ≤ 1000000000 → Ev (fun k => impl_divisor.l0 k a b) ((Int.gcd a b : Nat) : Int) := by
  induction n with
  | zero => intro a b h; omega
  | succ n ih =>
    intro a b h ha hb
    by_cases h0 : b = 0
    · refine Ev_at1 fun k => ?_
      simp only [impl_divisor.l0]
      rw [if_pos h0, h0, Int.gcd_zero_right]
      by_cases hs : a < 0
      · rw [if_pos hs, wrap_id (by omega) (by omega)]; congr 1; omega
      · rw [if_neg hs]; congr 1; omega
    · have h1 := tmod_lt a b h0
      rw [← gcd_step a b]
      refine Ev_round _ (fun k => ?_) (ih b (a.tmod b) (by omega) hb (by omega))
      simp only [impl_divisor.l0]
      rw [if_neg h0]
theorem idiv_ev (a b : Int) (ha : a.natAbs ≤ 1000000000) (hb : b.natAbs ≤ 1000000000) : Ev (fun k => impl_divisor.f k a b) ((Int.gcd a b : Nat) : Int) := by
  unfold impl_divisor.f
  exact idiv_loop (b.natAbs + 1) a b (by omega) ha hb
theorem isimp_ev {a b c r : Int} (hr : 0 < r) (ha : a.natAbs ≤ 1000000000) (hb : b.natAbs ≤ 1000000000) (hc : c.natAbs ≤ 1000000000) (hr' : r.natAbs ≤ 1000000000) : Ev (fun k => impl_simplest.f k a b c r) (simp4 a b c r) := by
  have hp := g4_pos a b c hr
  have dv : ∀ x : Int, x.natAbs ≤ 1000000000 → ((g4 a b c r : Nat) : Int) ∣ x → wrap64 (x.tdiv ((g4 a b c r : Nat) : Int)) = x / ((g4 a b c r : Nat) : Int) := by
    intro x hx hd
    rw [wrap_id (tdiv_bd x _ hx).1 (tdiv_bd x _ hx).2, tdiv_dvd hd]
  unfold impl_simplest.f
  refine Ev.bind (idiv_ev a b ha hb) (Ev.bind (idiv_ev c r hc hr') (Ev.bind (idiv_ev _ _ (gcd_bd ha hb) (gcd_bd hc hr')) (Ev_eq fun k => ?_)))
  have e : Int.gcd ((Int.gcd a b : Nat) : Int) ((Int.gcd c r : Nat) : Int) = g4 a b c r := by simp [g4, Int.gcd]
  rw [e, if_neg (by omega), dv a ha (g4_dvd1 ..), dv b hb (g4_dvd2 ..), dv c hc (g4_dvd3 ..), dv r hr' (g4_dvd4 ..)]
  rfl
theorem iok_ev2 {a b c r : Int} (hr : 0 < r) (ha : a.natAbs ≤ 1000000000) (hb : b.natAbs ≤ 1000000000) (hc : c.natAbs ≤ 1000000000) (hr' : r.natAbs ≤ 1000000000) : Ev (fun k => impl_okInterval.f k a b c r) (chk (simp4 a b c r)) := by
  unfold impl_okInterval.f
  refine Ev.bind (isimp_ev hr ha hb hc hr') (Ev_eq fun k => ?_)
  simp only [iok_eq, Option.bind_some, chk]
  by_cases h : Ok (simp4 a b c r).1 (simp4 a b c r).2.1 (simp4 a b c r).2.2.1 (simp4 a b c r).2.2.2 <;> simp [h]
theorem ipure_eq (a b c : Int) : impl_PureOf.f a b c = some (if Ok a b c 1 then (a, b, c, 1) else (0, 0, 0, 0)) := by
  simp only [impl_PureOf.f, iok_eq, Option.bind_some]
  by_cases h : Ok a b c 1 <;> simp [h]
theorem iadd_ev (a b c r a' b' c' r' : Int) : Ev (fun k => impl_AddIntervals.f k a b c r a' b' c' r') (addL a b c r a' b' c' r') := by
  unfold impl_AddIntervals.f
  by_cases h : Ok a b c r
  · by_cases h' : Ok a' b' c' r'
    · refine Ev_bindE (fun k => iok_eq ..) (Ev.congr (fun k => by rw [if_pos (by simpa using h)]) (Ev_bindE (fun k => iok_eq ..) (Ev.congr (fun k => by rw [if_pos (by simpa using h')]) ?_)))
      obtain ⟨k1, k2, k3, k4⟩ := h
      obtain ⟨l1, l2, l3, l4⟩ := h'
      have m1 := bd_mul k2 (show 0 ≤ r' ∧ r' ≤ 12 by omega) (by omega)
      have m2 := bd_mul k3 (show 0 ≤ r' ∧ r' ≤ 12 by omega) (by omega)
      have m3 := bd_mul k4 (show 0 ≤ r' ∧ r' ≤ 12 by omega) (by omega)
      have n1 := bd_mul l2 (show 0 ≤ r ∧ r ≤ 12 by omega) (by omega)
      have n2 := bd_mul l3 (show 0 ≤ r ∧ r ≤ 12 by omega) (by omega)
      have n3 := bd_mul l4 (show 0 ≤ r ∧ r ≤ 12 by omega) (by omega)
      have q1 := bd_mul (x := r) (y := r') (A := 12) (B := 12) (by omega) (by omega) (by omega)
      have q2 := Int.mul_pos (show 0 < r by omega) (show 0 < r' by omega)
      have e : addL a b c r a' b' c' r' = chk (simp4 (a * r' + a' * r) (b * r' + b' * r) (c * r' + c' * r) (r * r')) := by unfold addL; rw [if_pos ⟨⟨k1, k2, k3, k4⟩, ⟨l1, l2, l3, l4⟩⟩]
      rw [e]
      rw [wrap_id (n := a * r') (by omega) (by omega), wrap_id (n := b * r') (by omega) (by omega), wrap_id (n := c * r') (by omega) (by omega), wrap_id (n := a' * r) (by omega) (by omega), wrap_id (n := b' * r) (by omega) (by omega), wrap_id (n := c' * r) (by omega) (by omega), wrap_id (n := r * r') (by omega) (by omega),
        wrap_id (n := a * r' + a' * r) (by omega) (by omega), wrap_id (n := b * r' + b' * r) (by omega) (by omega), wrap_id (n := c * r' + c' * r) (by omega) (by omega)]
      exact Ev.bind (iok_ev2 q2 (by omega) (by omega) (by omega) (by omega)) (Ev_eq fun k => rfl)
    · refine Ev_bindE (fun k => iok_eq ..) (Ev.congr (fun k => by rw [if_pos (by simpa using h)]) (Ev_bindE (fun k => iok_eq ..) (Ev_eq fun k => ?_)))
      rw [if_neg (by simpa using h')]; simp [addL, h']
  · refine Ev_bindE (fun k => iok_eq ..) (Ev_eq fun k => ?_)
    rw [if_neg (by simpa using h)]; simp [addL, h]
def sameL (a b c r a' b' c' r' : Int) : Bool := decide (Ok a b c r ∧ Ok a' b' c' r' ∧ simp4 a b c r = simp4 a' b' c' r')
theorem iv_beq (x y : Iv) : (x.1 == y.1 && (x.2.1 == y.2.1 && (x.2.2.1 == y.2.2.1 && (x.2.2.2 == y.2.2.2)))) = decide (x = y) := by
  obtain ⟨a, b, c, r⟩ := x
  obtain ⟨a', b', c', r'⟩ := y
  rw [Bool.eq_iff_iff]; simp
theorem isame_ev (a b c r a' b' c' r' : Int) : Ev (fun k => impl_SameSize.f k a b c r a' b' c' r') (sameL a b c r a' b' c' r') := by
  unfold impl_SameSize.f
  by_cases h : Ok a b c r
  · by_cases h' : Ok a' b' c' r'
    · obtain ⟨k1, k2, k3, k4⟩ := id h
      obtain ⟨l1, l2, l3, l4⟩ := id h'
      refine Ev_bindE (fun k => iok_eq ..) (Ev.congr (fun k => by rw [if_pos (by simpa using h)]) (Ev_bindE (fun k => iok_eq ..) (Ev.congr (fun k => by rw [if_pos (by simpa using h')]) ?_)))
      refine Ev.bind (isimp_ev (a := a) (b := b) (c := c) (r := r) (by omega) (by omega) (by omega) (by omega) (by omega)) (Ev.bind (isimp_ev (a := a') (b := b') (c := c') (r := r') (by omega) (by omega) (by omega) (by omega) (by omega)) (Ev_eq fun k => ?_))
      rw [iv_beq]; simp [sameL, h, h']
    · refine Ev_bindE (fun k => iok_eq ..) (Ev.congr (fun k => by rw [if_pos (by simpa using h)]) (Ev_bindE (fun k => iok_eq ..) (Ev_eq fun k => ?_)))
      rw [if_neg (by simpa using h')]; simp [sameL, h']
  · refine Ev_bindE (fun k => iok_eq ..) (Ev_eq fun k => ?_)
    rw [if_neg (by simpa using h)]; simp [sameL, h]
theorem it_l2 : ∀ (m : Nat) (out : List Int), out.length = m → m ≤ 2000000 → Dig out → ∃ r, Canon r ∧ val r = val out ∧ Ev (fun k => impl_times.l2 k out) r := by
  intro m
  induction m with
  | zero =>
    intro out hl _ hd
    obtain rfl : out = [] := List.length_eq_zero_iff.1 hl
    refine ⟨[], ⟨Dig_nil, Top_nil⟩, rfl, Ev_at1 fun k => ?_⟩
    simp [impl_times.l2]
  | succ m ih =>
    intro out hl hm hd
    have hs := take_len_succ hl
    have hw : wrap64 ((out.length : Int) - 1) = (m : Int) := by rw [wrap_id (by omega) (by omega)]; omega
    by_cases h0 : rd out (m : Int) = 0
    · obtain ⟨r, hr, hv, he⟩ := ih (out.take m) (by rw [List.length_take]; omega) (by omega) (Dig_take hd m)
      refine ⟨r, hr, ?_, Ev_round _ (fun k => ?_) he⟩
      · rw [hv]
        conv => rhs; rw [hs, val_snoc, h0]
        omega
      · simp only [impl_times.l2]
        rw [hw, if_pos (by omega), if_pos (by omega), if_pos (by omega), if_pos h0, if_pos (by omega)]
        rfl
    · refine ⟨out, ⟨hd, Top_last (by omega) (by rw [show (out.length : Int) - 1 = (m : Int) from by omega]; exact h0)⟩, rfl, Ev_at1 fun k => ?_⟩
      simp only [impl_times.l2]
      rw [hw, if_pos (by omega), if_pos (by omega), if_pos (by omega), if_neg h0]
theorem it_l1 : ∀ (f : Nat) (c : Int) (out : List Int), 0 ≤ c → c ≤ 10000000000000 → c < (10000 : Int) ^ f → Dig out → out.length + f ≤ 2000000 →
    ∃ r, Canon r ∧ val r = val out + B out.length * c ∧ Ev (fun k => impl_times.l1 k out c) r := by
  intro f
  induction f with
  | zero =>
    intro c out h0 _ h1 hd hl
    have hc : c = 0 := by simp at h1; omega
    obtain ⟨r, hr, hv, he⟩ := it_l2 out.length out rfl (by omega) hd
    refine ⟨r, hr, by rw [hv, hc]; omega, Ev_round _ (fun k => ?_) he⟩
    simp only [impl_times.l1]
    rw [if_neg (by omega)]
  | succ f ih =>
    intro c out h0 h2 h1 hd hl
    by_cases hc : c > 0
    · have hq : c / 10000 < (10000 : Int) ^ f := by rw [Int.pow_succ] at h1; exact Int.ediv_lt_of_lt_mul (by omega) h1
      obtain ⟨r, hr, hv, he⟩ := ih (c / 10000) (out ++ [c % 10000]) (by omega) (by omega) hq (Dig_snoc hd (mod_dig c)) (by simp; omega)
      refine ⟨r, hr, ?_, Ev_round _ (fun k => ?_) he⟩
      · rw [hv, val_snoc, List.length_append, List.length_singleton, B_succ, Int.mul_comm 10000, Int.mul_assoc, Int.add_assoc, ← Int.mul_add, Int.emod_add_mul_ediv]
      · obtain ⟨e1, e2⟩ := dm_nonneg (show 0 ≤ c by omega)
        simp only [impl_times.l1]
        rw [if_pos hc, if_pos (by omega), e1, e2, wrap_id (by omega) (by omega)]
    · have hc : c = 0 := by omega
      obtain ⟨r, hr, hv, he⟩ := it_l2 out.length out rfl (by omega) hd
      refine ⟨r, hr, by rw [hv, hc]; omega, Ev_round _ (fun k => ?_) he⟩
      simp only [impl_times.l1]
      rw [if_neg (by omega)]
theorem it_l0 (b : List Int) (hb : Dig b) (hl : b.length ≤ 1000000) (n : Int) (hn : 0 ≤ n ∧ n ≤ 10000000000000) : ∀ (d i : Nat) (out : List Int) (c : Int), i + d = b.length → out.length = i → Dig out → 0 ≤ c ∧ c ≤ n →
    val out + B i * c = n * val (b.take i) → ∃ r, Canon r ∧ val r = n * val b ∧ Ev (fun k => impl_times.l0 k n out c b (b.length : Int) (i : Int)) r := by
  intro d
  induction d with
  | zero =>
    intro i out c hi ho hd hc hv
    obtain ⟨r, hr, hrv, he⟩ := it_l1 5 c out hc.1 (by omega) (by omega) hd (by omega)
    refine ⟨r, hr, ?_, Ev_round _ (fun k => ?_) he⟩
    · rw [hrv, ho, hv, show i = b.length from by omega, List.take_length]
    · simp only [impl_times.l0]
      rw [if_neg (by omega)]
  | succ d ih =>
    intro i out c hi ho hd hc hv
    have hg := hb _ (rd_mem b (i : Int) (by omega) (by omega))
    have hcb := carry_bd hg hn.1 hc
    generalize hx : rd b (i : Int) * n + c = x at hcb
    obtain ⟨r, hr, hrv, he⟩ := ih (i + 1) (out ++ [x % 10000]) (x / 10000) (by omega) (by simp [ho]) (Dig_snoc hd (mod_dig x)) hcb.2.2 (by
      rw [val_snoc, ho, B_succ, take_snoc b i (by omega), val_snoc, List.length_take, Nat.min_eq_left (by omega)]
      exact mul_step hv hx.symm)
    refine ⟨r, hr, hrv, Ev_round _ (fun k => ?_) he⟩
    obtain ⟨e1, e2⟩ := dm_nonneg hcb.1
    have hm : 0 ≤ rd b (i : Int) * n := Int.mul_nonneg hg.1 hn.1
    simp only [impl_times.l0]
    rw [if_pos (by omega), if_pos (by omega), if_pos (by omega), if_pos (by omega), wrap_id (n := rd b (i : Int) * n) (by omega) (by omega), hx, wrap_id (n := x) (by omega) (by omega), e1, e2, wrap_id (n := x / 10000) (by omega) (by omega), wrap_id (n := (i : Int) + 1) (by omega) (by omega)]
    simp
theorem itimes_ev {b : List Int} (hb : Dig b) (hl : b.length ≤ 1000000) {n : Int} (hn : 0 ≤ n ∧ n ≤ 10000000000000) : ∃ r, Canon r ∧ val r = n * val b ∧ Ev (fun k => impl_times.f k b n) r := by
  have := it_l0 b hb hl n hn b.length 0 [] 0 (by omega) rfl Dig_nil (by omega) (by simp [val])
  simpa [impl_times.f] using this
theorem io_loop (a b : List Int) (ha : Dig a) (hb : Dig b) (hl : a.length = b.length) (hs : a.length ≤ 2000000) : ∀ (j : Nat), j ≤ a.length → a.drop j = b.drop j →
    Ev (fun k => impl_order.l0 k a b ((j : Int) - 1)) (cmpI (val a) (val b)) := by
  intro j
  induction j with
  | zero =>
    intro _ hd
    have e : a = b := by simpa using hd
    refine Ev_at1 fun k => ?_
    simp only [impl_order.l0]
    rw [if_neg (by omega), e, cmpI_self]
  | succ j ih =>
    intro hj hd
    have hw : ((j + 1 : Nat) : Int) - 1 = (j : Int) := by omega
    rw [hw]
    rcases Int.lt_trichotomy (rd a (j : Int)) (rd b (j : Int)) with h | h | h
    · refine Ev_at1 fun k => ?_
      simp only [impl_order.l0]
      rw [if_pos (by omega), if_pos (by omega), if_pos (by omega), if_pos (by omega), if_pos h, cmpI_lt (val_at ha hb j (by omega) (by omega) hd h)]
    · refine Ev_round _ (fun k => ?_) (ih (by omega) (by rw [drop_cons a j (by omega), drop_cons b j (by omega), h, hd]))
      simp only [impl_order.l0]
      rw [if_pos (by omega), if_pos (by omega), if_pos (by omega), if_pos (by omega), if_neg (by omega), if_neg (by omega), wrap_id (by omega) (by omega)]
    · refine Ev_at1 fun k => ?_
      simp only [impl_order.l0]
      rw [if_pos (by omega), if_pos (by omega), if_pos (by omega), if_pos (by omega), if_neg (by omega), if_pos (by omega), cmpI_gt (val_at hb ha j (by omega) (by omega) hd.symm h)]
theorem iorder_ev {a b : List Int} (ha : Canon a) (hb : Canon b) (hs : a.length ≤ 2000000) : Ev (fun k => impl_order.f k a b) (cmpI (val a) (val b)) := by
  unfold impl_order.f
  by_cases h : a.length = b.length
  · refine Ev.congr (fun k => by rw [if_pos (by omega)]) ?_
    rw [wrap_id (by omega) (by omega)]
    exact io_loop a b ha.1 hb.1 h hs a.length (Nat.le_refl _) (by rw [List.drop_length, h, List.drop_length])
  · refine Ev_eq fun k => ?_
    rw [if_neg (by omega)]
    rcases Nat.lt_or_gt_of_ne h with h1 | h1
    · rw [if_pos (by omega), cmpI_lt (Canon_len_lt ha hb h1)]
    · rw [if_neg (by omega), cmpI_gt (Canon_len_lt hb ha h1)]
theorem pow_le {p : Int} (hp : 1 ≤ p) {m n : Nat} (h : m ≤ n) : p ^ m ≤ p ^ n := by
  obtain ⟨d, rfl⟩ := Nat.le.dest h
  clear h
  induction d with
  | zero => exact Int.le_refl _
  | succ d ih =>
    have h0 : 0 ≤ p ^ (m + d) := Int.pow_nonneg (by omega)
    have : p ^ (m + d) * 1 ≤ p ^ (m + d) * p := Int.mul_le_mul_of_nonneg_left hp h0
    rw [show m + (d + 1) = (m + d) + 1 from by omega, Int.pow_succ]
    omega
/-- The factor's loop: it comes to the next product, and goes on. -/
theorem ip_l2 {p e lim : Int} (hp : 2 ≤ p ∧ p ≤ 5) {x7 : List Int} (h7 : Canon x7) (hl : x7.length ≤ 1000000) {rows : List (List Int)} {m i0 left n : Int} (hn : 0 ≤ n ∧ n ≤ 29) (hpn : p ^ n.toNat ≤ 1000000000) {r : Int → List Int → Prop} :
    ∀ (d i : Nat) (x12 : Int), (i : Int) + d = n → x12 = p ^ i → ∃ t, Canon t ∧ val t = p ^ n.toNat * val x7 ∧
      ∀ res : List Int, Ev (fun k => impl_product.l1 k t [p, e, lim] (wrap64 (left - n)) rows m i0) res → Ev (fun k => impl_product.l2 k x7 [p, e, lim] left n x12 (i : Int) rows m i0) res := by
  intro d
  induction d with
  | zero =>
    intro i x12 hi hx
    have hin : i = n.toNat := by omega
    have hpos : 0 ≤ p ^ n.toNat := Int.pow_nonneg (by omega)
    obtain ⟨t, ht, hv, he⟩ := itimes_ev h7.1 hl (n := x12) (by rw [hx, hin]; omega)
    refine ⟨t, ht, by rw [hv, hx, hin], fun res hres => Ev.step (f := fun k => (impl_times.f k x7 x12).bind fun t192 => (impl_product.l1 k t192 [p, e, lim] (wrap64 (left - n)) rows m i0)) (fun k => ?_) (Ev.bind he hres)⟩
    simp only [impl_product.l2]
    rw [if_neg (by omega)]
  | succ d ih =>
    intro i x12 hi hx
    have h1 : p ^ (i + 1) ≤ p ^ n.toNat := pow_le (by omega) (by omega)
    have h0 : 0 ≤ p ^ (i + 1) := Int.pow_nonneg (by omega)
    obtain ⟨t, ht, hv, he⟩ := ih (i + 1) (p ^ (i + 1)) (by omega) rfl
    refine ⟨t, ht, hv, fun res hres => Ev_round _ (fun k => ?_) (he res hres)⟩
    have hr : rd [p, e, lim] 0 = p := rfl
    simp only [impl_product.l2]
    rw [if_pos (by omega), if_pos (by simp), hr, hx, ← Int.pow_succ, wrap_id (n := p ^ (i + 1)) (by omega) (by omega), wrap_id (n := (i : Int) + 1) (by omega) (by omega)]
    rfl
/-- One prime's loop. -/
theorem ip_l1 {p e lim : Int} (hp : 2 ≤ p ∧ p ≤ 5) (hlim : 1 ≤ lim ∧ lim ≤ 29) (hpl : p ^ lim.toNat ≤ 1000000000) {rows : List (List Int)} {m i0 : Int} (N : Nat) (hN : N ≤ 1000000) (hi0 : 0 ≤ i0 ∧ i0 ≤ 10) :
    ∀ (f : Nat) (left : Int) (x7 : List Int), 0 ≤ left → left < f → left ≤ 1000000 → Canon x7 → p ^ left.toNat * val x7 < 2 ^ N → ∃ t, Canon t ∧ val t = p ^ left.toNat * val x7 ∧
      ∀ res : List Int, Ev (fun k => impl_product.l0 k t rows m (i0 + 1)) res → Ev (fun k => impl_product.l1 k x7 [p, e, lim] left rows m i0) res := by
  intro f
  induction f with
  | zero => intro left x7 h0 h1; omega
  | succ f ih =>
    intro left x7 h0 h1 hle h7 hv
    by_cases hz : left > 0
    · have hv0 := (val_bd h7.1).1
      have hmn : mn left lim = if lim < left then lim else left := rfl
      generalize hnn : mn left lim = n at hmn
      have hn : 1 ≤ n ∧ n ≤ left ∧ n ≤ lim := by split at hmn <;> omega
      have hsplit : p ^ left.toNat = p ^ (left - n).toNat * p ^ n.toNat := by rw [← Int.pow_add]; congr 1; omega
      have hle1 : val x7 ≤ p ^ left.toNat * val x7 := by
        have h1 : 1 ≤ p ^ left.toNat := by have := pow_le (p := p) (by omega) (Nat.zero_le left.toNat); simpa using this
        have := Int.mul_le_mul_of_nonneg_right h1 hv0
        omega
      have hl7 : x7.length ≤ 1000000 := Nat.le_trans (Canon_len h7 (Int.lt_of_le_of_lt hle1 hv)) hN
      obtain ⟨t, ht, htv, he⟩ := ip_l2 (p := p) (e := e) (lim := lim) hp h7 hl7 (rows := rows) (m := m) (i0 := i0) (left := left) (n := n) (by omega) (Int.le_trans (pow_le (by omega) (by omega)) hpl) (r := fun _ _ => True) n.toNat 0 1 (by omega) (by simp)
      have hv2 : p ^ (left - n).toNat * val t = p ^ left.toNat * val x7 := by rw [htv, hsplit, Int.mul_assoc]
      obtain ⟨u, hu, huv, hue⟩ := ih (left - n) t (by omega) (by omega) (by omega) ht (by rw [hv2]; exact hv)
      refine ⟨u, hu, by rw [huv, hv2], fun res hres => Ev_round _ (fun k => ?_) (he res ?_)⟩
      · have hr : rd [p, e, lim] 2 = lim := rfl
        simp only [impl_product.l1]
        rw [if_pos hz, if_pos (by simp), hr, hnn]
        rfl
      · rw [wrap_id (by omega) (by omega)]; exact hue res hres
    · obtain rfl : left = 0 := by omega
      refine ⟨x7, h7, by simp, fun res hres => Ev_round _ (fun k => ?_) hres⟩
      simp only [impl_product.l1]
      rw [if_neg hz, wrap_id (by omega) (by omega)]
theorem ip_l0 {rows : List (List Int)} {m : Int} (i : Nat) (x7 : List Int) (res : List Int) {p e lim : Int} (hm : m = rows.length) (hi : i < rows.length) (hr : rd_L2 rows (i : Int) = [p, e, lim])
    (h : Ev (fun k => impl_product.l1 k x7 [p, e, lim] e rows m (i : Int)) res) : Ev (fun k => impl_product.l0 k x7 rows m (i : Int)) res := by
  refine Ev_round _ (fun k => ?_) h
  simp only [impl_product.l0]
  rw [if_pos (by omega), if_pos (by omega), if_pos (by omega), hr, if_pos (by simp)]
  rfl
theorem iproduct_ev {a b c : Int} (ha : 0 ≤ a ∧ a ≤ 100000) (hb : 0 ≤ b ∧ b ≤ 100000) (hc : 0 ≤ c ∧ c ≤ 100000) : ∃ r, Canon r ∧ val r = ((num a b c : Nat) : Int) ∧ r.length ≤ 1000000 ∧ Ev (fun k => impl_product.f k a b c) r := by
  have hnum : ((num a b c : Nat) : Int) = 2 ^ a.toNat * 3 ^ b.toNat * 5 ^ c.toNat := by simp [num]
  have h3 : (3 : Nat) ^ b.toNat ≤ 2 ^ (2 * b.toNat) := by rw [Nat.pow_mul]; exact Nat.pow_le_pow_left (by omega) _
  have h5 : (5 : Nat) ^ c.toNat ≤ 2 ^ (3 * c.toNat) := by rw [Nat.pow_mul]; exact Nat.pow_le_pow_left (by omega) _
  have hN : num a b c < 2 ^ (a.toNat + 2 * b.toNat + 3 * c.toNat + 1) := by
    have h1 : num a b c ≤ 2 ^ a.toNat * 2 ^ (2 * b.toNat) * 2 ^ (3 * c.toNat) := Nat.mul_le_mul (Nat.mul_le_mul (Nat.le_refl _) h3) h5
    rw [← Nat.pow_add, ← Nat.pow_add] at h1
    exact Nat.lt_of_le_of_lt h1 (Nat.pow_lt_pow_right (by omega) (by omega))
  generalize hNe : a.toNat + 2 * b.toNat + 3 * c.toNat + 1 = N at hN
  have hNI : ((num a b c : Nat) : Int) < 2 ^ N := by exact_mod_cast hN
  have p2 : (0 : Int) < 2 ^ a.toNat := Int.pow_pos (by omega)
  have p3 : (0 : Int) < 3 ^ b.toNat := Int.pow_pos (by omega)
  have p5 : (0 : Int) < 5 ^ c.toNat := Int.pow_pos (by omega)
  have q2 : (2 : Int) ^ a.toNat ≤ 2 ^ a.toNat * 3 ^ b.toNat := by have := Int.mul_le_mul_of_nonneg_left (show 1 ≤ (3 : Int) ^ b.toNat by omega) (Int.le_of_lt p2); omega
  have q23 : (0 : Int) < 2 ^ a.toNat * 3 ^ b.toNat := Int.mul_pos p2 p3
  have q3 : (2 : Int) ^ a.toNat * 3 ^ b.toNat ≤ 2 ^ a.toNat * 3 ^ b.toNat * 5 ^ c.toNat := by have := Int.mul_le_mul_of_nonneg_left (show 1 ≤ (5 : Int) ^ c.toNat by omega) (Int.le_of_lt q23); omega
  rw [hnum] at hNI
  generalize hrows : [[2, a, 29], [3, b, 18], [5, c, 12]] = rows
  have hm : rows.length = 3 := by rw [← hrows]; rfl
  obtain ⟨t, ht, htv, he⟩ := ip_l1 (p := 2) (e := a) (lim := 29) (by omega) (by omega) (by decide) (rows := rows) (m := 3) (i0 := 0) N (by omega) (by omega) (a.toNat + 1) a [1] ha.1 (by omega) (by omega) Canon_one (by simp only [val]; omega)
  have htv' : val t = 2 ^ a.toNat := by rw [htv]; simp [val]
  obtain ⟨u, hu, huv, hue⟩ := ip_l1 (p := 3) (e := b) (lim := 18) (by omega) (by omega) (by decide) (rows := rows) (m := 3) (i0 := 1) N (by omega) (by omega) (b.toNat + 1) b t hb.1 (by omega) (by omega) ht (by rw [htv', Int.mul_comm]; omega)
  have huv' : val u = 2 ^ a.toNat * 3 ^ b.toNat := by rw [huv, htv', Int.mul_comm]
  obtain ⟨v, hv, hvv, hve⟩ := ip_l1 (p := 5) (e := c) (lim := 12) (by omega) (by omega) (by decide) (rows := rows) (m := 3) (i0 := 2) N (by omega) (by omega) (c.toNat + 1) c u hc.1 (by omega) (by omega) hu (by rw [huv', Int.mul_comm]; exact hNI)
  have hvv' : val v = 2 ^ a.toNat * 3 ^ b.toNat * 5 ^ c.toNat := by rw [hvv, huv', Int.mul_comm]
  refine ⟨v, hv, by rw [hnum, hvv'], Nat.le_trans (Canon_len hv (by rw [hvv']; exact hNI)) (by omega), ?_⟩
  have hend : Ev (fun k => impl_product.l0 k v rows 3 ((3 : Nat) : Int)) v := Ev_at1 fun k => by simp only [impl_product.l0]; rw [if_neg (by omega)]
  have r2 := ip_l0 (m := 3) 2 u v (p := 5) (e := c) (lim := 12) (by omega) (by omega) (by rw [← hrows]; rfl) (hve v hend)
  have r1 := ip_l0 (m := 3) 1 t v (p := 3) (e := b) (lim := 18) (by omega) (by omega) (by rw [← hrows]; rfl) (hue v r2)
  have r0 := ip_l0 (m := 3) 0 [1] v (p := 2) (e := a) (lim := 29) (by omega) (by omega) (by rw [← hrows]; rfl) (he v r1)
  unfold impl_product.f
  rw [hrows]
  simp only [Option.bind_some, hm]
  exact r0
theorem mx_nonneg (a : Int) : mx a 0 = ((a.toNat : Nat) : Int) := by unfold mx; split <;> omega
theorem isign_ev {a b c : Int} (ha : a.natAbs ≤ 100000) (hb : b.natAbs ≤ 100000) (hc : c.natAbs ≤ 100000) : Ev (fun k => impl_sign.f k a b c) (sg a b c) := by
  unfold impl_sign.f
  rw [wrap_id (n := -a) (by omega) (by omega), wrap_id (n := -b) (by omega) (by omega), wrap_id (n := -c) (by omega) (by omega)]
  simp only [mx_nonneg]
  obtain ⟨r, hr, hrv, hrl, he⟩ := iproduct_ev (a := ((a.toNat : Nat) : Int)) (b := ((b.toNat : Nat) : Int)) (c := ((c.toNat : Nat) : Int)) (by omega) (by omega) (by omega)
  obtain ⟨s, hs, hsv, hsl, hse⟩ := iproduct_ev (a := (((-a).toNat : Nat) : Int)) (b := (((-b).toNat : Nat) : Int)) (c := (((-c).toNat : Nat) : Int)) (by omega) (by omega) (by omega)
  have e1 : num ((a.toNat : Nat) : Int) ((b.toNat : Nat) : Int) ((c.toNat : Nat) : Int) = num a b c := by simp only [num, Int.toNat_natCast]
  have e2 : num (((-a).toNat : Nat) : Int) (((-b).toNat : Nat) : Int) (((-c).toNat : Nat) : Int) = num (-a) (-b) (-c) := by simp only [num, Int.toNat_natCast]
  have ho := iorder_ev hr hs (by omega)
  rw [hrv, hsv, e1, e2] at ho
  exact Ev.bind he (Ev.bind hse (Ev.bind ho (Ev_eq fun k => rfl)))
def signL (a b c r : Int) : Int := if Ok a b c r then sg a b c else 0
theorem isignof_ev (a b c r : Int) : Ev (fun k => impl_SignOf.f k a b c r) (signL a b c r) := by
  unfold impl_SignOf.f
  by_cases o : Ok a b c r
  · obtain ⟨o1, o2, o3, o4⟩ := id o
    have e : signL a b c r = sg a b c := by unfold signL; rw [if_pos o]
    rw [e]
    exact Ev_bindE (fun k => iok_eq ..) (Ev.congr (fun k => by rw [if_pos (by simpa using o)]) (Ev.bind (isign_ev (by omega) (by omega) (by omega)) (Ev_eq fun k => rfl)))
  · exact Ev_bindE (fun k => iok_eq ..) (Ev_eq fun k => by rw [if_neg (by simpa using o)]; simp [signL, o])
def cmpL (a b c r a' b' c' r' : Int) : Int := if Ok a b c r ∧ Ok a' b' c' r' then sg (a * r' - a' * r) (b * r' - b' * r) (c * r' - c' * r) else 0
theorem icmp_ev (a b c r a' b' c' r' : Int) : Ev (fun k => impl_CompareIntervals.f k a b c r a' b' c' r') (cmpL a b c r a' b' c' r') := by
  unfold impl_CompareIntervals.f
  by_cases h : Ok a b c r
  · by_cases h' : Ok a' b' c' r'
    · refine Ev_bindE (fun k => iok_eq ..) (Ev.congr (fun k => by rw [if_pos (by simpa using h)]) (Ev_bindE (fun k => iok_eq ..) (Ev.congr (fun k => by rw [if_pos (by simpa using h')]) ?_)))
      obtain ⟨k1, k2, k3, k4⟩ := id h
      obtain ⟨l1, l2, l3, l4⟩ := id h'
      have m1 := bd_mul k2 (show 0 ≤ r' ∧ r' ≤ 12 by omega) (by omega)
      have m2 := bd_mul k3 (show 0 ≤ r' ∧ r' ≤ 12 by omega) (by omega)
      have m3 := bd_mul k4 (show 0 ≤ r' ∧ r' ≤ 12 by omega) (by omega)
      have n1 := bd_mul l2 (show 0 ≤ r ∧ r ≤ 12 by omega) (by omega)
      have n2 := bd_mul l3 (show 0 ≤ r ∧ r ≤ 12 by omega) (by omega)
      have n3 := bd_mul l4 (show 0 ≤ r ∧ r ≤ 12 by omega) (by omega)
      have e : cmpL a b c r a' b' c' r' = sg (a * r' - a' * r) (b * r' - b' * r) (c * r' - c' * r) := by unfold cmpL; rw [if_pos ⟨h, h'⟩]
      rw [e, wrap_id (n := a * r') (by omega) (by omega), wrap_id (n := b * r') (by omega) (by omega), wrap_id (n := c * r') (by omega) (by omega), wrap_id (n := a' * r) (by omega) (by omega), wrap_id (n := b' * r) (by omega) (by omega), wrap_id (n := c' * r) (by omega) (by omega),
        wrap_id (n := a * r' - a' * r) (by omega) (by omega), wrap_id (n := b * r' - b' * r) (by omega) (by omega), wrap_id (n := c * r' - c' * r) (by omega) (by omega)]
      exact Ev.bind (isign_ev (by omega) (by omega) (by omega)) (Ev_eq fun k => rfl)
    · refine Ev_bindE (fun k => iok_eq ..) (Ev.congr (fun k => by rw [if_pos (by simpa using h)]) (Ev_bindE (fun k => iok_eq ..) (Ev_eq fun k => ?_)))
      rw [if_neg (by simpa using h')]; simp [cmpL, h']
  · refine Ev_bindE (fun k => iok_eq ..) (Ev_eq fun k => ?_)
    rw [if_neg (by simpa using h)]; simp [cmpL, h]
theorem io_bd {n r : Int} (hn : -2500 ≤ n ∧ n ≤ 2500) (hr : 1 ≤ r ∧ r ≤ 12) : -30000 ≤ n * r ∧ n * r ≤ 30000 := by
  have := bd_mul (x := n) (y := r) (A := 2500) (B := 12) hn (by omega) (by omega); omega
theorem ioct_low {a b c r n : Int} (o : Ok a b c r) (hn : n ≤ -2400) : 0 ≤ sg (a - n * r) b c := by
  obtain ⟨o1, o2, o3, o4⟩ := o
  refine sg_high (B := 400) (C := 400) (by omega) (by omega) (by omega) (by omega) ?_
  have := Int.mul_le_mul_of_nonneg_left o1.1 (show 0 ≤ -n by omega)
  rw [Int.mul_one, Int.neg_mul] at this
  omega
theorem ioct_high {a b c r n : Int} (o : Ok a b c r) (hn : 2401 ≤ n) : sg (a - n * r) b c < 0 := by
  obtain ⟨o1, o2, o3, o4⟩ := o
  refine sg_low (B := 400) (C := 400) (by omega) (by omega) (by omega) (by omega) ?_
  have := Int.mul_le_mul_of_nonneg_left o1.1 (show 0 ≤ n by omega)
  omega
theorem ioct_l1 {a b c r : Int} (o : Ok a b c r) : ∀ (d : Nat) (n : Int), n + d = 2401 → -2500 ≤ n → 0 ≤ sg (a - n * r) b c → ∃ m, n ≤ m ∧ m ≤ 2400 ∧ Oct a b c r m ∧ Ev (fun k => impl_OctavesIn.l1 k n a b c r) m := by
  obtain ⟨o1, o2, o3, o4⟩ := id o
  intro d
  induction d with
  | zero =>
    intro n hn _ h
    have := ioct_high o (n := n) (by omega)
    omega
  | succ d ih =>
    intro n hn hl h
    have b1 := io_bd (n := n + 1) (r := r) (by omega) o1
    have hs := isign_ev (a := a - (n + 1) * r) (b := b) (c := c) (by omega) (by omega) (by omega)
    by_cases hp : sg (a - (n + 1) * r) b c ≥ 0
    · obtain ⟨m, m1, m2, m3, m4⟩ := ih (n + 1) (by omega) (by omega) hp
      refine ⟨m, by omega, m2, m3, Ev_round (fun k => (impl_sign.f k (a - (n + 1) * r) b c).bind fun t => (if t ≥ 0 then (impl_OctavesIn.l1 k (n + 1) a b c r) else (some n))) (fun k => ?_) (Ev.bind hs (Ev.congr (fun k => if_pos hp) m4))⟩
      simp only [impl_OctavesIn.l1]
      rw [wrap_id (n := n + 1) (by omega) (by omega), wrap_id (n := (n + 1) * r) (by omega) (by omega), wrap_id (n := a - (n + 1) * r) (by omega) (by omega)]
    · refine ⟨n, by omega, by omega, ⟨h, by omega⟩, Ev_round (fun k => (impl_sign.f k (a - (n + 1) * r) b c).bind fun t => (if t ≥ 0 then (impl_OctavesIn.l1 k (n + 1) a b c r) else (some n))) (fun k => ?_) (Ev.bind hs (Ev_eq fun k => if_neg hp))⟩
      simp only [impl_OctavesIn.l1]
      rw [wrap_id (n := n + 1) (by omega) (by omega), wrap_id (n := (n + 1) * r) (by omega) (by omega), wrap_id (n := a - (n + 1) * r) (by omega) (by omega)]
theorem ioct_l0 {a b c r : Int} (o : Ok a b c r) : ∀ (d : Nat) (n : Int), n = -2400 + d → n ≤ 2401 → ∃ m, m ≤ n ∧ -2400 ≤ m ∧ 0 ≤ sg (a - m * r) b c ∧ ∀ res, Ev (fun k => impl_OctavesIn.l1 k m a b c r) res → Ev (fun k => impl_OctavesIn.l0 k n a b c r) res := by
  obtain ⟨o1, o2, o3, o4⟩ := id o
  intro d
  induction d with
  | zero =>
    intro n hn hu
    have b1 := io_bd (n := n) (r := r) (by omega) o1
    have hs := isign_ev (a := a - n * r) (b := b) (c := c) (by omega) (by omega) (by omega)
    have hp := ioct_low o (n := n) (by omega)
    refine ⟨n, by omega, by omega, hp, fun res hres => Ev_round (fun k => (impl_sign.f k (a - n * r) b c).bind fun t => (if t < 0 then (impl_OctavesIn.l0 k (n - 1) a b c r) else (impl_OctavesIn.l1 k n a b c r))) (fun k => ?_) (Ev.bind hs (Ev.congr (fun k => if_neg (by omega)) hres))⟩
    simp only [impl_OctavesIn.l0]
    rw [wrap_id (n := n * r) (by omega) (by omega), wrap_id (n := a - n * r) (by omega) (by omega), wrap_id (n := n - 1) (by omega) (by omega)]
  | succ d ih =>
    intro n hn hu
    have b1 := io_bd (n := n) (r := r) (by omega) o1
    have hs := isign_ev (a := a - n * r) (b := b) (c := c) (by omega) (by omega) (by omega)
    by_cases hp : sg (a - n * r) b c < 0
    · obtain ⟨m, m1, m2, m3, m4⟩ := ih (n - 1) (by omega) (by omega)
      refine ⟨m, by omega, m2, m3, fun res hres => Ev_round (fun k => (impl_sign.f k (a - n * r) b c).bind fun t => (if t < 0 then (impl_OctavesIn.l0 k (n - 1) a b c r) else (impl_OctavesIn.l1 k n a b c r))) (fun k => ?_) (Ev.bind hs (Ev.congr (fun k => if_pos hp) (m4 res hres)))⟩
      simp only [impl_OctavesIn.l0]
      rw [wrap_id (n := n * r) (by omega) (by omega), wrap_id (n := a - n * r) (by omega) (by omega), wrap_id (n := n - 1) (by omega) (by omega)]
    · refine ⟨n, by omega, by omega, by omega, fun res hres => Ev_round (fun k => (impl_sign.f k (a - n * r) b c).bind fun t => (if t < 0 then (impl_OctavesIn.l0 k (n - 1) a b c r) else (impl_OctavesIn.l1 k n a b c r))) (fun k => ?_) (Ev.bind hs (Ev.congr (fun k => if_neg (by omega)) hres))⟩
      simp only [impl_OctavesIn.l0]
      rw [wrap_id (n := n * r) (by omega) (by omega), wrap_id (n := a - n * r) (by omega) (by omega), wrap_id (n := n - 1) (by omega) (by omega)]
theorem tdiv_small {x y : Int} (hy : 1000000 ≤ y) (hx : -2000000000 ≤ x ∧ x ≤ 2000000000) : -2000 ≤ x.tdiv y ∧ x.tdiv y ≤ 2000 := by
  have h1 : (x.tdiv y).natAbs = x.natAbs / y.natAbs := Int.natAbs_tdiv x y
  have h2 : x.natAbs / y.natAbs ≤ 2000000000 / 1000000 := Nat.le_trans (Nat.div_le_div_left (show 1000000 ≤ y.natAbs by omega) (by omega)) (Nat.div_le_div_right (by omega))
  omega
theorem ioct_ev {a b c r : Int} (o : Ok a b c r) : ∃ n, -2400 ≤ n ∧ n ≤ 2400 ∧ Oct a b c r n ∧ Ev (fun k => impl_OctavesIn.f k a b c r) n := by
  obtain ⟨o1, o2, o3, o4⟩ := id o
  have ht := tdiv_small (x := a * 1000000 + b * 1584963 + c * 2321928) (y := 1000000 * r) (by omega) (by omega)
  generalize he : (a * 1000000 + b * 1584963 + c * 2321928).tdiv (1000000 * r) = n at ht
  obtain ⟨m, m1, m2, m3, m4⟩ := ioct_l0 o (n + 2400).toNat n (by omega) (by omega)
  obtain ⟨q, q1, q2, q3, q4⟩ := ioct_l1 o (2401 - m).toNat m (by omega) (by omega) m3
  refine ⟨q, by omega, q2, q3, ?_⟩
  unfold impl_OctavesIn.f
  refine Ev_bindE (fun k => iok_eq ..) (Ev.congr (fun k => ?_) (m4 q q4))
  rw [if_pos (by simpa using o), wrap_id (n := 1000000 * r) (by omega) (by omega), if_neg (by omega), wrap_id (n := a * 1000000) (by omega) (by omega), wrap_id (n := b * 1584963) (by omega) (by omega), wrap_id (n := c * 2321928) (by omega) (by omega),
    wrap_id (n := a * 1000000 + b * 1584963) (by omega) (by omega), wrap_id (n := a * 1000000 + b * 1584963 + c * 2321928) (by omega) (by omega), he, wrap_id (n := n) (by omega) (by omega)]
theorem ioct_no {a b c r : Int} (o : ¬ Ok a b c r) : Ev (fun k => impl_OctavesIn.f k a b c r) 0 := by
  unfold impl_OctavesIn.f
  exact Ev_bindE (fun k => iok_eq ..) (Ev_eq fun k => by rw [if_neg (by simpa using o)])
theorem iwithin_ev {a b c r : Int} (o : Ok a b c r) : ∃ n, -2400 ≤ n ∧ n ≤ 2400 ∧ Oct a b c r n ∧ Ev (fun k => impl_WithinOctave.f k a b c r) (chk (simp4 (a - n * r) b c r)) := by
  obtain ⟨n, n1, n2, hn, h⟩ := ioct_ev o
  obtain ⟨o1, o2, o3, o4⟩ := id o
  have b1 := io_bd (n := n) (r := r) (by omega) o1
  refine ⟨n, n1, n2, hn, ?_⟩
  unfold impl_WithinOctave.f
  refine Ev_bindE (fun k => iok_eq ..) (Ev.congr (fun k => by rw [if_pos (by simpa using o)]) (Ev.bind h ?_))
  rw [wrap_id (n := n * r) (by omega) (by omega), wrap_id (n := a - n * r) (by omega) (by omega)]
  exact Ev.bind (iok_ev2 (by omega) (by omega) (by omega) (by omega) (by omega)) (Ev_eq fun k => rfl)
theorem iwithin_no {a b c r : Int} (o : ¬ Ok a b c r) : Ev (fun k => impl_WithinOctave.f k a b c r) (0, 0, 0, 0, false) := by
  unfold impl_WithinOctave.f
  exact Ev_bindE (fun k => iok_eq ..) (Ev_eq fun k => by rw [if_neg (by simpa using o)])
theorem ififths_some {n : Int} (h : -100 ≤ n ∧ n ≤ 100) {v : Ivb} (hv : Ev (fun k => impl_WithinOctave.f k (-n) n 0 1) v) : Ev (fun k => impl_Fifths.f k n) v := by
  unfold impl_Fifths.f
  refine Ev_bindE (fun k => within_eq ..) (Ev.congr (fun k => by rw [if_pos (by simpa using h)]) (Ev_bindE (fun k => ipure_eq ..) ?_))
  rw [wrap_id (n := -n) (by omega) (by omega), if_pos ⟨by omega, by omega, by omega, by omega⟩]
  exact Ev.bind hv (Ev_eq fun k => rfl)
theorem ififths_no {n : Int} (h : ¬ (-100 ≤ n ∧ n ≤ 100)) : Ev (fun k => impl_Fifths.f k n) (0, 0, 0, 0, false) := by
  unfold impl_Fifths.f
  exact Ev_bindE (fun k => within_eq ..) (Ev_eq fun k => by rw [if_neg (by simpa using h)])
/-! The chain of fifths: what Fifths answers, how two fifths compare; what ChainOf hands back. -/
open Srt (fifE keyE ltE chainN sortedN ordn)
def tE (n : Int) : S25 := toS (fifE n)
theorem oct_tab : ∀ i : Fin 61, 0 ≤ sg (fifE ((i.val : Int) - 30)).1 ((i.val : Int) - 30) 0 ∧ sg ((fifE ((i.val : Int) - 30)).1 - 1) ((i.val : Int) - 30) 0 < 0 := by decide +kernel
theorem chk_tab : ∀ i : Fin 61, chk (simp4 (fifE ((i.val : Int) - 30)).1 ((i.val : Int) - 30) 0 1) = ((fifE ((i.val : Int) - 30)).1, (i.val : Int) - 30, 0, 1, true) := by decide +kernel
theorem cmp_tab : ∀ i j : Fin 61, decide (cmpL (fifE ((i.val : Int) - 30)).1 ((i.val : Int) - 30) 0 1 (fifE ((j.val : Int) - 30)).1 ((j.val : Int) - 30) 0 1 < 0) = ltE (fifE ((i.val : Int) - 30)) (fifE ((j.val : Int) - 30)) := by decide +kernel
theorem fin61 {n : Int} (h : -30 ≤ n ∧ n ≤ 30) : ∃ i : Fin 61, (i.val : Int) - 30 = n := ⟨⟨(n + 30).toNat, by omega⟩, by simp; omega⟩
theorem fif_ev {n : Int} (h : -30 ≤ n ∧ n ≤ 30) : Ev (fun k => impl_Fifths.f k n) ((fifE n).1, n, 0, 1, true) := by
  obtain ⟨i, rfl⟩ := fin61 h
  have e := chk_tab i
  have o := oct_tab i
  generalize (i.val : Int) - 30 = n at *
  have ho : Oct (-n) n 0 1 (-n - (fifE n).1) := ⟨by rw [show -n - (-n - (fifE n).1) * 1 = (fifE n).1 by omega]; exact o.1, by rw [show -n - (-n - (fifE n).1 + 1) * 1 = (fifE n).1 - 1 by omega]; exact o.2⟩
  have ok : Ok (-n) n 0 1 := ⟨by omega, by omega, by omega, by omega⟩
  obtain ⟨m, _, _, hm, h1⟩ := iwithin_ev ok
  obtain rfl := Oct_uniq ok.pos hm ho
  rw [show -n - (-n - (fifE n).1) * 1 = (fifE n).1 by omega, e] at h1
  exact ififths_some ⟨by omega, by omega⟩ h1
theorem all_ev {p : Nat → Int → Prop} : ∀ (l : List Int), (∀ n ∈ l, ∃ K, ∀ k, K ≤ k → p k n) → ∃ K, ∀ k, K ≤ k → ∀ n ∈ l, p k n
  | [], _ => ⟨0, fun k _ n hn => by simp at hn⟩
  | a :: t, h => by
    obtain ⟨K1, h1⟩ := h a (by simp)
    obtain ⟨K2, h2⟩ := all_ev t (fun n hn => h n (by simp [hn]))
    refine ⟨max K1 K2, fun k hk n hn => ?_⟩
    rcases List.mem_cons.1 hn with rfl | hn
    · exact h1 k (by omega)
    · exact h2 k (by omega) n hn
theorem ichain_in {low high : Int} (h : low ≤ high ∧ -30 ≤ low ∧ high ≤ 30) : Ev (fun k => impl_ChainOf.f k low high) ((sortedN low high).map tE) := by
  have hr : ∀ n ∈ chainN low high, -30 ≤ n ∧ n ≤ 30 := fun n hn => by have := Srt.chain_mem.1 hn; omega
  obtain ⟨K1, h1⟩ := all_ev (p := FifOk) (chainN low high) (fun n hn => fif_ev (hr n hn))
  obtain ⟨K2, h2⟩ := all_ev (p := fun k n => ∀ m ∈ chainN low high, CmpOk k n m) (chainN low high) (fun n hn => all_ev (p := fun k m => CmpOk k n m) (chainN low high) (fun m hm => by
    obtain ⟨K, hK⟩ := icmp_ev (fifE n).1 n 0 1 (fifE m).1 m 0 1
    refine ⟨K, fun k hk => ?_⟩
    obtain ⟨i, rfl⟩ := fin61 (hr n hn)
    obtain ⟨j, rfl⟩ := fin61 (hr m hm)
    have e : impl_CompareIntervals.f k _ _ _ _ _ _ _ _ = some _ := hK k hk
    unfold CmpOk
    rw [e, Option.map_some, cmp_tab i j]))
  refine ⟨max K1 K2, fun k hk => ?_⟩
  show impl_ChainOf.f k low high = _
  unfold impl_ChainOf.f
  rw [if_pos h, if_pos ⟨fun n hn => h1 k (by omega) n hn, fun n hn => h2 k (by omega) n hn⟩]
  rfl
theorem ichain_out {low high : Int} (h : ¬ (low ≤ high ∧ -30 ≤ low ∧ high ≤ 30)) : Ev (fun k => impl_ChainOf.f k low high) [] :=
  Ev_eq fun k => by unfold impl_ChainOf.f; rw [if_neg h]
/-! CountSizes: how many different simplest forms. -/
def OkS (x : S25) : Prop := Ok x.f0 x.f1 x.f2 x.f3
instance (x : S25) : Decidable (OkS x) := by unfold OkS; infer_instance
def spl (x : S25) : Q4 := simp4 x.f0 x.f1 x.f2 x.f3
def addQ (acc : List Q4) (q : Q4) : List Q4 := if q ∈ acc then acc else acc ++ [q]
theorem OkS.bds {x : S25} (h : OkS x) : 0 < x.f3 ∧ x.f0.natAbs ≤ 1000000000 ∧ x.f1.natAbs ≤ 1000000000 ∧ x.f2.natAbs ≤ 1000000000 ∧ x.f3.natAbs ≤ 1000000000 := by
  obtain ⟨h1, h2, h3, h4⟩ := h; omega
theorem wf_small {v : Int} (h : -1000 ≤ v ∧ v ≤ 1000) : (Lit.int .i64 v).wf = true := by
  simp [Lit.wf, IntKind.min, IntKind.max, IntKind.signed, IntKind.bits]; omega
theorem wf_spl {x : S25} (h : OkS x) : wf4 (spl x) := by
  obtain ⟨h1, h2, h3, h4⟩ := h
  obtain ⟨s1, s2, s3, s4, e, b1, b2, b3, b4⟩ := simp4_le (a := x.f0) (b := x.f1) (c := x.f2) (r := x.f3) (by omega) h2 h3 h4 h1.2
  unfold spl; rw [e]
  exact ⟨wf_small (v := s1) (by omega), wf_small (v := s2) (by omega), wf_small (v := s3) (by omega), wf_small (v := s4) (by omega)⟩
theorem any_key (acc : List Q4) (q : Q4) (ha : ∀ y ∈ acc, wf4 y) (hq : wf4 q) : (acc.map keyLit).any (fun y => y.sameKey (keyLit q)) = decide (q ∈ acc) := by
  rw [Bool.eq_iff_iff]
  simp only [List.any_eq_true, List.mem_map, decide_eq_true_eq]
  constructor
  · rintro ⟨_, ⟨y, hy, rfl⟩, h⟩
    have := (WideAt.sameKey_iff (keyLit_key q)).1 h
    rw [← keyLit_inj (ha y hy) hq this]; exact hy
  · intro h
    exact ⟨keyLit q, ⟨q, h, rfl⟩, (WideAt.sameKey_iff (keyLit_key q)).2 rfl⟩
theorem fold_key : ∀ (xs acc : List Q4), (∀ y ∈ acc, wf4 y) → (∀ y ∈ xs, wf4 y) → (xs.map keyLit).foldl Maps.addKey (acc.map keyLit) = (xs.foldl addQ acc).map keyLit
  | [], _, _, _ => rfl
  | q :: t, acc, ha, hx => by
    have hq := hx q (by simp)
    have e : Maps.addKey (acc.map keyLit) (keyLit q) = (addQ acc q).map keyLit := by
      unfold Maps.addKey addQ
      rw [any_key acc q ha hq]
      by_cases h : q ∈ acc
      · simp [h]
      · simp [h]
    rw [List.map_cons, List.foldl_cons, List.foldl_cons, e]
    refine fold_key t (addQ acc q) ?_ (fun y hy => hx y (by simp [hy]))
    intro y hy
    unfold addQ at hy
    split at hy
    · exact ha y hy
    · rcases List.mem_append.1 hy with hy | hy
      · exact ha y hy
      · rw [List.mem_singleton.1 hy]; exact hq
theorem mem_fold (q : Q4) : ∀ (xs acc : List Q4), q ∈ xs.foldl addQ acc ↔ q ∈ acc ∨ q ∈ xs
  | [], acc => by simp
  | y :: t, acc => by
    rw [List.foldl_cons, mem_fold q t (addQ acc y)]
    unfold addQ
    split
    · rename_i h
      constructor
      · rintro (h1 | h1)
        · exact .inl h1
        · exact .inr (by simp [h1])
      · rintro (h1 | h1)
        · exact .inl h1
        · rcases List.mem_cons.1 h1 with rfl | h1
          · exact .inl h
          · exact .inr h1
    · simp [or_assoc]
/-- How many different ones. -/
def uniq (xs : List Q4) : Nat := (xs.foldl addQ []).length
theorem uniq_snoc (xs : List Q4) (q : Q4) : uniq (xs ++ [q]) = if q ∈ xs then uniq xs else uniq xs + 1 := by
  unfold uniq
  rw [List.foldl_append, List.foldl_cons, List.foldl_nil, addQ]
  have := mem_fold q xs []
  by_cases h : q ∈ xs
  · rw [if_pos h, if_pos (this.2 (.inr h))]
  · rw [if_neg h, if_neg (fun m => by rcases this.1 m with m | m; simp at m; exact h m), List.length_append]; rfl
/-! impl: the map's keys. -/
theorem igo_ok : ∀ (l : List S25) (xs : List Q4), (∀ x ∈ l, OkS x) → (∀ q ∈ xs, wf4 q) → Ev (fun k => impl_CountSizes.go k l xs) ((uniq (xs ++ l.map spl) : Nat) : Int)
  | [], xs, _, hx => by
    refine Ev_eq fun k => ?_
    have := fold_key xs [] (by simp) hx
    rw [List.map_nil] at this
    rw [impl_CountSizes.go, this, List.length_map, List.map_nil, List.append_nil]; rfl
  | x :: t, xs, hl, hx => by
    have o := hl x (by simp)
    obtain ⟨b0, b1, b2, b3, b4⟩ := o.bds
    have ih := igo_ok t (xs ++ [spl x]) (fun y hy => hl y (by simp [hy])) (fun q hq => by
      rcases List.mem_append.1 hq with hq | hq
      · exact hx q hq
      · rw [List.mem_singleton.1 hq]; exact wf_spl o)
    rw [List.append_assoc] at ih
    refine Ev.congr (fun k => by rw [impl_CountSizes.go, iok_eq, Option.bind_some, if_pos (by simpa [OkS] using o)]) (Ev.bind (isimp_ev b0 b1 b2 b3 b4) (Ev.congr (fun k => if_pos (wf_spl o)) ih))
theorem icount_ev (l : List S25) (hl : l.length ≤ 1048576) (h : ∀ x ∈ l, OkS x) : Ev (fun k => impl_CountSizes.f k l) ((uniq (l.map spl) : Nat) : Int) := by
  have := igo_ok l [] h (by simp)
  rw [List.nil_append] at this
  refine Ev.congr (fun k => ?_) this
  unfold impl_CountSizes.f
  rw [if_pos hl]
theorem at_some (l : List Int) (hl : l.length ≤ 1048576) (hw : ∀ x ∈ l, (Lit.int .u8 x).wf = true) (i : Int) (hi : 0 ≤ i ∧ i ≤ 1000) : ∃ v, laws_at.f l i = some v ∧ 0 ≤ v ∧ v ≤ 255 := by
  unfold laws_at.f
  by_cases h : (l.length : Int) = 0
  · exact ⟨0, by rw [if_pos h], by omega, by omega⟩
  · rw [wrap_id (n := i * 5) (by omega) (by omega), wrap_id (n := i * 5 + 1) (by omega) (by omega), Int.tmod_eq_emod_of_nonneg (by omega)]
    have h0 := Int.emod_nonneg (i * 5 + 1) h
    have h1 := Int.emod_lt_of_pos (i * 5 + 1) (show 0 < (l.length : Int) by omega)
    have hb := wf_u8 (hw _ (rd_mem l _ h0 h1))
    refine ⟨rd l ((i * 5 + 1) % (l.length : Int)), ?_, hb⟩
    rw [if_neg h, if_pos h0, if_pos h1, wrap_id (by omega) (by omega)]
theorem big_eq (l : List Int) : laws_big.f l = some (decide ((l.length : Int) > 1048576)) := rfl
def cS (x y : S25) : Int := cmpL x.f0 x.f1 x.f2 x.f3 y.f0 y.f1 y.f2 y.f3
def aS (x y : S25) : Ivb := addL x.f0 x.f1 x.f2 x.f3 y.f0 y.f1 y.f2 y.f3
def mS (x y : S25) : Ivb := addL x.f0 x.f1 x.f2 x.f3 (-y.f0) (-y.f1) (-y.f2) y.f3
def toT (v : Ivb) : S25 := ⟨v.1, v.2.1, v.2.2.1, v.2.2.2.1⟩
def pri : S25 := ⟨0, 0, 0, 1⟩
def octv : S25 := ⟨1, 0, 0, 1⟩
def nxt : List S25 → S25
  | [] => octv
  | y :: _ => y
/-- The steps of a list, if all differences are valid. -/
def stepsL : List S25 → Option (List S25)
  | [] => some []
  | x :: t => if OkS x ∧ (mS (nxt t) x).2.2.2.2 = true then (stepsL t).map (toT (mS (nxt t) x) :: ·) else none
theorem rd_el {l : List S25} {i : Nat} (h : i < l.length) : rd_T25 l (i : Int) = l[i] := by simp [rd_T25, h]
theorem imin_ev (x y : S25) (o : OkS y) : Ev (fun k => impl_minus.f k x.f0 x.f1 x.f2 x.f3 y.f0 y.f1 y.f2 y.f3) (mS x y) := by
  obtain ⟨o1, o2, o3, o4⟩ := o
  unfold impl_minus.f impl_negated.f
  refine Ev.congr (fun k => by rw [Option.bind_some, wrap_id (n := -y.f0) (by omega) (by omega), wrap_id (n := -y.f1) (by omega) (by omega), wrap_id (n := -y.f2) (by omega) (by omega)]) (Ev.bind (iadd_ev ..) (Ev_eq fun k => rfl))
theorem st_l2 (l : List S25) (hl : l.length ≤ 61) : ∀ (d i : Nat) (out s : List S25), i + d = l.length → out.length ≤ i → stepsL (l.drop i) = some s →
    Ev (fun k => impl_StepsOf.l2 k l out l (l.length : Int) (i : Int) 1 0 0 1) (out ++ s) := by
  intro d
  induction d with
  | zero =>
    intro i out s hi ho hs
    refine Ev_at1 fun k => ?_
    rw [impl_StepsOf.l2, if_neg (by omega)]
    rw [List.drop_eq_nil_of_le (by omega)] at hs
    simp only [stepsL, Option.some.injEq] at hs
    rw [← hs, List.append_nil]
  | succ d ih =>
    intro i out s hi ho hs
    have hlt : i < l.length := by omega
    rw [drop_rd l i hlt, stepsL] at hs
    by_cases c : OkS (rd_T25 l (i : Int)) ∧ (mS (nxt (l.drop (i + 1))) (rd_T25 l (i : Int))).2.2.2.2 = true
    · rw [if_pos c] at hs
      obtain ⟨s', hs', rfl⟩ := Option.map_eq_some_iff.1 hs
      have h := ih (i + 1) (out ++ [toT (mS (nxt (l.drop (i + 1))) (rd_T25 l (i : Int)))]) s' (by omega) (by simp; omega) hs'
      rw [List.append_assoc, List.singleton_append] at h
      have w : wrap64 ((i : Int) + 1) = ((i + 1 : Nat) : Int) := by rw [wrap_id (by omega) (by omega)]; rfl
      by_cases q : i + 1 < l.length
      · have e : nxt (l.drop (i + 1)) = rd_T25 l ((i + 1 : Nat) : Int) := by rw [drop_rd l (i + 1) q]; rfl
        rw [e] at h c
        refine Ev_round (fun k => (impl_minus.f k (rd_T25 l ((i + 1 : Nat) : Int)).f0 (rd_T25 l ((i + 1 : Nat) : Int)).f1 (rd_T25 l ((i + 1 : Nat) : Int)).f2 (rd_T25 l ((i + 1 : Nat) : Int)).f3 (rd_T25 l (i : Int)).f0 (rd_T25 l (i : Int)).f1 (rd_T25 l (i : Int)).f2 (rd_T25 l (i : Int)).f3).bind fun bt => if bt.2.2.2.2 = true then impl_StepsOf.l2 k l (out ++ [toT bt]) l (l.length : Int) ((i + 1 : Nat) : Int) 1 0 0 1 else some []) (fun k => ?_) (Ev.bind (imin_ev _ _ c.1) (Ev.congr (fun k => if_pos c.2) ?_))
        · rw [impl_StepsOf.l2, if_pos (by omega), if_pos (by omega), if_pos (by omega), w, if_pos (by omega), if_pos (by omega)]
          congr 1; funext bt
          by_cases z : bt.2.2.2.2 = true
          · rw [if_pos z, if_pos z, if_pos (show out.length < 4398046511104 by omega)]; rfl
          · rw [if_neg z, if_neg z]
        · rw [e]; exact h
      · have e : nxt (l.drop (i + 1)) = octv := by rw [List.drop_eq_nil_of_le (by omega)]; rfl
        rw [e] at h c
        refine Ev_round (fun k => (impl_minus.f k octv.f0 octv.f1 octv.f2 octv.f3 (rd_T25 l (i : Int)).f0 (rd_T25 l (i : Int)).f1 (rd_T25 l (i : Int)).f2 (rd_T25 l (i : Int)).f3).bind fun bt => if bt.2.2.2.2 = true then impl_StepsOf.l2 k l (out ++ [toT bt]) l (l.length : Int) ((i + 1 : Nat) : Int) 1 0 0 1 else some []) (fun k => ?_) (Ev.bind (imin_ev _ _ c.1) (Ev.congr (fun k => if_pos c.2) ?_))
        · rw [impl_StepsOf.l2, if_pos (by omega), if_pos (by omega), if_pos (by omega), w, if_neg (by omega)]
          show (impl_minus.f k 1 0 0 1 _ _ _ _).bind _ = (impl_minus.f k 1 0 0 1 _ _ _ _).bind _
          congr 1; funext bt
          by_cases z : bt.2.2.2.2 = true
          · rw [if_pos z, if_pos z, if_pos (show out.length < 4398046511104 by omega)]; rfl
          · rw [if_neg z, if_neg z]
        · rw [e]; exact h
    · rw [if_neg c] at hs; cases hs
theorem st_l1 (l : List S25) (hl : l.length ≤ 61) {r : List S25} (hA : ∀ j : Nat, j < l.length - 1 → cS (rd_T25 l (j : Int)) (rd_T25 l ((j + 1 : Nat) : Int)) < 0) (h : Ev (fun k => impl_StepsOf.l2 k l [] l (l.length : Int) 0 1 0 0 1) r) :
    ∀ (d i : Nat), i + d = l.length → 1 ≤ i → Ev (fun k => impl_StepsOf.l1 k l (i : Int) 1 0 0 1) r := by
  intro d
  induction d with
  | zero =>
    intro i hi h1
    refine Ev_round _ (fun k => ?_) h
    rw [impl_StepsOf.l1, if_neg (by omega)]
  | succ d ih =>
    intro i hi h1
    obtain ⟨j, rfl⟩ : ∃ j, i = j + 1 := ⟨i - 1, by omega⟩
    have hj := hA j (by omega)
    have w0 : wrap64 (((j + 1 : Nat) : Int) - 1) = (j : Int) := by rw [wrap_id (by omega) (by omega)]; omega
    have w : wrap64 (((j + 1 : Nat) : Int) + 1) = ((j + 1 + 1 : Nat) : Int) := by rw [wrap_id (by omega) (by omega)]; rfl
    refine Ev_round (fun k => (impl_CompareIntervals.f k (rd_T25 l (j : Int)).f0 (rd_T25 l (j : Int)).f1 (rd_T25 l (j : Int)).f2 (rd_T25 l (j : Int)).f3 (rd_T25 l ((j + 1 : Nat) : Int)).f0 (rd_T25 l ((j + 1 : Nat) : Int)).f1 (rd_T25 l ((j + 1 : Nat) : Int)).f2 (rd_T25 l ((j + 1 : Nat) : Int)).f3).bind fun t => if t ≥ 0 then some [] else impl_StepsOf.l1 k l ((j + 1 + 1 : Nat) : Int) 1 0 0 1) (fun k => ?_) (Ev.bind (icmp_ev ..) (Ev.congr (fun k => if_neg (by unfold cS at hj; omega)) (ih (j + 1 + 1) (by omega) (by omega))))
    rw [impl_StepsOf.l1, if_pos (by omega), w0, if_pos (by omega), if_pos (by omega), if_pos (by omega), w]
theorem st_l0 (l : List S25) (hl : 1 ≤ l.length ∧ l.length ≤ 61) {r : List S25} (hB : ∀ j : Nat, j < l.length → OkS (rd_T25 l (j : Int)) ∧ 0 ≤ cS (rd_T25 l (j : Int)) pri ∧ cS (rd_T25 l (j : Int)) octv < 0)
    (hS : sameL (rd_T25 l 0).f0 (rd_T25 l 0).f1 (rd_T25 l 0).f2 (rd_T25 l 0).f3 0 0 0 1 = true) (h : Ev (fun k => impl_StepsOf.l1 k l 1 1 0 0 1) r) :
    ∀ (d i : Nat), i + d = l.length → Ev (fun k => impl_StepsOf.l0 k l l (l.length : Int) (i : Int) 0 0 0 1 1 0 0 1) r := by
  intro d
  induction d with
  | zero =>
    intro i hi
    refine Ev_round (fun k => (impl_SameSize.f k (rd_T25 l 0).f0 (rd_T25 l 0).f1 (rd_T25 l 0).f2 (rd_T25 l 0).f3 0 0 0 1).bind fun t => if t = true then impl_StepsOf.l1 k l 1 1 0 0 1 else some []) (fun k => ?_) (Ev.bind (isame_ev ..) (Ev.congr (fun k => if_pos hS) h))
    rw [impl_StepsOf.l0, if_neg (by omega), if_pos (by omega)]
  | succ d ih =>
    intro i hi
    obtain ⟨b1, b2, b3⟩ := hB i (by omega)
    have w : wrap64 ((i : Int) + 1) = ((i + 1 : Nat) : Int) := by rw [wrap_id (by omega) (by omega)]; rfl
    refine Ev_round (fun k => (impl_CompareIntervals.f k (rd_T25 l (i : Int)).f0 (rd_T25 l (i : Int)).f1 (rd_T25 l (i : Int)).f2 (rd_T25 l (i : Int)).f3 0 0 0 1).bind fun t => if t < 0 then some [] else ((impl_CompareIntervals.f k (rd_T25 l (i : Int)).f0 (rd_T25 l (i : Int)).f1 (rd_T25 l (i : Int)).f2 (rd_T25 l (i : Int)).f3 1 0 0 1).bind fun t => if t ≥ 0 then some [] else impl_StepsOf.l0 k l l (l.length : Int) ((i + 1 : Nat) : Int) 0 0 0 1 1 0 0 1)) (fun k => ?_)
      (Ev.bind (icmp_ev ..) (Ev.congr (fun k => if_neg (show ¬ cS (rd_T25 l (i : Int)) pri < 0 by omega)) (Ev.bind (icmp_ev ..) (Ev.congr (fun k => if_neg (show ¬ cS (rd_T25 l (i : Int)) octv ≥ 0 by omega)) (ih (i + 1) (by omega))))))
    rw [impl_StepsOf.l0, if_pos (by omega), if_pos (by omega), if_pos (by omega), iok_eq, Option.bind_some, if_pos (by simpa [OkS] using b1), w]
def StepsOk (l : List S25) : Prop := (1 ≤ l.length ∧ l.length ≤ 61) ∧ (∀ j : Nat, j < l.length → OkS (rd_T25 l (j : Int)) ∧ 0 ≤ cS (rd_T25 l (j : Int)) pri ∧ cS (rd_T25 l (j : Int)) octv < 0) ∧
  sameL (rd_T25 l 0).f0 (rd_T25 l 0).f1 (rd_T25 l 0).f2 (rd_T25 l 0).f3 0 0 0 1 = true ∧ (∀ j : Nat, j < l.length - 1 → cS (rd_T25 l (j : Int)) (rd_T25 l ((j + 1 : Nat) : Int)) < 0)
instance (l : List S25) : Decidable (StepsOk l) := by unfold StepsOk; infer_instance
theorem isteps_ev (l s : List S25) (h : StepsOk l) (hs : stepsL l = some s) : Ev (fun k => impl_StepsOf.f k l) s := by
  obtain ⟨hl, hB, hS, hA⟩ := h
  have h2 := st_l2 l hl.2 l.length 0 [] s (by omega) (by simp) hs
  have h1 := st_l1 l hl.2 hA h2 (l.length - 1) 1 (by omega) (by omega)
  have h0 := st_l0 l hl hB hS h1 l.length 0 (by omega)
  have p0 : impl_PureOf.f 0 0 0 = some (0, 0, 0, 1) := by rw [ipure_eq]; rfl
  have p1 : impl_PureOf.f 1 0 0 = some (1, 0, 0, 1) := by rw [ipure_eq]; rfl
  refine Ev.congr (f := fun k => impl_StepsOf.j0 k l (decide ((l.length : Int) > 61)) 0 0 0 1 1 0 0 1) (fun k => ?_) (Ev_round _ (fun k => ?_) h0)
  · unfold impl_StepsOf.f
    rw [p0, Option.bind_some, p1, Option.bind_some, if_neg (by omega)]
  · rw [impl_StepsOf.j0, if_neg (by simp; omega)]; rfl
/-- The law's first loop: the sum, the greatest, the least. -/
def runL : List S25 → S25 → S25 → S25 → Option (S25 × S25 × S25)
  | [], sm, bg, ls => some (sm, bg, ls)
  | x :: t, sm, bg, ls => if (aS sm x).2.2.2.2 = true ∧ 0 < signL x.f0 x.f1 x.f2 x.f3 then runL t (toT (aS sm x)) (if cS x bg > 0 then x else bg) (if cS x ls < 0 then x else ls) else none
theorem law_j2 (s : List S25) (hl : s.length ≤ 61) (i : Nat) (hi : i < s.length) {sm bg ls : S25} {r : Bool} {bg' ls' : S25}
    (e1 : bg' = if cS (rd_T25 s (i : Int)) bg > 0 then rd_T25 s (i : Int) else bg) (e2 : ls' = if cS (rd_T25 s (i : Int)) ls < 0 then rd_T25 s (i : Int) else ls)
    (h : Ev (fun k => laws_FnThreeSteps.l0 k s ((i + 1 : Nat) : Int) sm.f0 sm.f1 sm.f2 sm.f3 bg'.f0 bg'.f1 bg'.f2 bg'.f3 ls'.f0 ls'.f1 ls'.f2 ls'.f3) r) :
    Ev (fun k => laws_FnThreeSteps.j2 k s (i : Int) false bg.f0 bg.f1 bg.f2 bg.f3 ls.f0 ls.f1 ls.f2 ls.f3 sm.f0 sm.f1 sm.f2 sm.f3) r := by
  have w : wrap64 ((i : Int) + 1) = ((i + 1 : Nat) : Int) := by rw [wrap_id (by omega) (by omega)]; rfl
  refine Ev_round _ (fun k => by rw [laws_FnThreeSteps.j2, if_neg (by decide), if_pos (by omega), if_pos (by omega), w]) (Ev.bind (icmp_ev ..) ?_)
  by_cases c1 : cS (rd_T25 s (i : Int)) bg > 0
  · rw [if_pos c1] at e1
    subst e1
    refine Ev.congr (fun k => if_pos c1) (Ev.bind (icmp_ev ..) ?_)
    by_cases c2 : cS (rd_T25 s (i : Int)) ls < 0
    · rw [if_pos c2] at e2
      subst e2
      exact Ev.congr (fun k => if_pos c2) h
    · rw [if_neg c2] at e2
      subst e2
      exact Ev.congr (fun k => if_neg c2) h
  · rw [if_neg c1] at e1
    subst e1
    refine Ev.congr (fun k => if_neg c1) (Ev.bind (icmp_ev ..) ?_)
    by_cases c2 : cS (rd_T25 s (i : Int)) ls < 0
    · rw [if_pos c2] at e2
      subst e2
      exact Ev.congr (fun k => if_pos c2) h
    · rw [if_neg c2] at e2
      subst e2
      exact Ev.congr (fun k => if_neg c2) h
theorem law_l0 (s : List S25) (hl : s.length ≤ 61) {Sm Bg Ls : S25} {r : Bool} (h : Ev (fun k => laws_FnThreeSteps.l1 k s 0 Sm.f0 Sm.f1 Sm.f2 Sm.f3 Bg.f0 Bg.f1 Bg.f2 Bg.f3 Ls.f0 Ls.f1 Ls.f2 Ls.f3) r) :
    ∀ (d i : Nat) (sm bg ls : S25), i + d = s.length → runL (s.drop i) sm bg ls = some (Sm, Bg, Ls) →
    Ev (fun k => laws_FnThreeSteps.l0 k s (i : Int) sm.f0 sm.f1 sm.f2 sm.f3 bg.f0 bg.f1 bg.f2 bg.f3 ls.f0 ls.f1 ls.f2 ls.f3) r := by
  intro d
  induction d with
  | zero =>
    intro i sm bg ls hi hr
    rw [List.drop_eq_nil_of_le (by omega)] at hr
    simp only [runL, Option.some.injEq, Prod.mk.injEq] at hr
    obtain ⟨rfl, rfl, rfl⟩ := hr
    refine Ev_round _ (fun k => ?_) h
    rw [laws_FnThreeSteps.l0, if_neg (by omega)]
  | succ d ih =>
    intro i sm bg ls hi hr
    have hlt : i < s.length := by omega
    rw [drop_rd s i hlt, runL] at hr
    by_cases c : (aS sm (rd_T25 s (i : Int))).2.2.2.2 = true ∧ 0 < signL (rd_T25 s (i : Int)).f0 (rd_T25 s (i : Int)).f1 (rd_T25 s (i : Int)).f2 (rd_T25 s (i : Int)).f3
    · rw [if_pos c] at hr
      have h2 := law_j2 s hl i hlt (bg := bg) (ls := ls) rfl rfl (ih (i + 1) _ _ _ (by omega) hr)
      refine Ev_round _ (fun k => by rw [laws_FnThreeSteps.l0, if_pos (by omega), if_pos (by omega)]) (Ev.bind (iadd_ev ..) (Ev.congr (fun k => if_pos c.1) (Ev.bind (isignof_ev ..) ?_)))
      rw [show decide (signL (rd_T25 s (i : Int)).f0 (rd_T25 s (i : Int)).f1 (rd_T25 s (i : Int)).f2 (rd_T25 s (i : Int)).f3 ≤ 0) = false from decide_eq_false (by omega)]
      exact h2
    · rw [if_neg c] at hr; cases hr
theorem S25_ext (x y : S25) : x = y ↔ x.f0 = y.f0 ∧ x.f1 = y.f1 ∧ x.f2 = y.f2 ∧ x.f3 = y.f3 := by
  obtain ⟨a, b, c, d⟩ := x
  obtain ⟨a', b', c', d'⟩ := y
  simp
instance (x y : S25) : Decidable (x = y) := decidable_of_iff _ (S25_ext x y).symm
/-- The law's second loop: each step is the greatest, the least, or misses the greatest by the least. -/
def fits (bg ls x : S25) : Bool := decide (x = bg) || decide (x = ls) || decide (aS x ls = (bg.f0, bg.f1, bg.f2, bg.f3, true))
theorem S25_eq (x y : S25) : (!(x.f0 == y.f0) || (!(x.f1 == y.f1) || (!(x.f2 == y.f2) || (!(x.f3 == y.f3))))) = decide (x ≠ y) := by
  obtain ⟨a, b, c, d⟩ := x
  obtain ⟨a', b', c', d'⟩ := y
  by_cases h0 : a = a' <;> by_cases h1 : b = b' <;> by_cases h2 : c = c' <;> by_cases h3 : d = d' <;> simp [h0, h1, h2, h3]
theorem law_l1 (s : List S25) (hl : s.length ≤ 61) (bg ls : S25) (hf : ∀ j : Nat, j < s.length → fits bg ls (rd_T25 s (j : Int)) = true) :
    ∀ (d i : Nat), i + d = s.length → Ev (fun k => laws_FnThreeSteps.l1 k s (i : Int) 1 0 0 1 bg.f0 bg.f1 bg.f2 bg.f3 ls.f0 ls.f1 ls.f2 ls.f3) true := by
  intro d
  induction d with
  | zero =>
    intro i hi
    refine Ev_at1 fun k => ?_
    have p1 : impl_PureOf.f 1 0 0 = some (1, 0, 0, 1) := by rw [ipure_eq]; rfl
    rw [laws_FnThreeSteps.l1, if_neg (by omega), p1]; rfl
  | succ d ih =>
    intro i hi
    have hn := ih (i + 1) (by omega)
    have hx := hf i (by omega)
    have w : wrap64 ((i : Int) + 1) = ((i + 1 : Nat) : Int) := by rw [wrap_id (by omega) (by omega)]; rfl
    by_cases c1 : rd_T25 s (i : Int) = bg
    · refine Ev_round _ (fun k => by rw [laws_FnThreeSteps.l1, if_pos (by omega), if_pos (by omega), S25_eq, if_neg (by simpa using c1)]) (Ev_round _ (fun k => ?_) hn)
      rw [laws_FnThreeSteps.j4, if_neg (by decide), w]
    · by_cases c2 : rd_T25 s (i : Int) = ls
      · refine Ev_round _ (fun k => by rw [laws_FnThreeSteps.l1, if_pos (by omega), if_pos (by omega), S25_eq, if_pos (by simpa using c1)]) (Ev_round _ (fun k => ?_) hn)
        rw [laws_FnThreeSteps.j4, S25_eq, if_neg (by simpa using c2), w]
      · have c3 : aS (rd_T25 s (i : Int)) ls = (bg.f0, bg.f1, bg.f2, bg.f3, true) := by simpa [fits, c1, c2] using hx
        have ha := iadd_ev (rd_T25 s (i : Int)).f0 (rd_T25 s (i : Int)).f1 (rd_T25 s (i : Int)).f2 (rd_T25 s (i : Int)).f3 ls.f0 ls.f1 ls.f2 ls.f3
        rw [show addL _ _ _ _ _ _ _ _ = (bg.f0, bg.f1, bg.f2, bg.f3, true) from c3] at ha
        refine Ev_round _ (fun k => by rw [laws_FnThreeSteps.l1, if_pos (by omega), if_pos (by omega), S25_eq, if_pos (by simpa using c1)]) (Ev_round _ (fun k => by rw [laws_FnThreeSteps.j4, S25_eq, if_pos (by simpa using c2), if_pos (by omega), if_pos (by omega), w]) (Ev.bind ha (Ev.congr (fun k => ?_) hn)))
        rw [if_pos rfl, if_neg (by simp)]
/-- All that the law asks of the chain from low to high. -/
def chk3 (low high : Int) : Bool :=
  match stepsL ((sortedN low high).map tE) with
  | none => false
  | some s => decide (StepsOk ((sortedN low high).map tE)) && decide (((sortedN low high).length : Int) = high - low + 1) && decide (s.length = (sortedN low high).length) && decide (∀ x ∈ s, OkS x) && decide (uniq (s.map spl) ≤ 3) && decide (1 ≤ uniq (s.map spl)) &&
      match runL s pri (rd_T25 s 0) (rd_T25 s 0) with
      | none => false
      | some (sm, bg, ls) => decide (sm = octv) && s.all (fits bg ls)
theorem all_chk : ∀ a : Fin 13, ∀ b : Fin 13, chk3 (-(a.val : Int)) (b.val : Int) = true := by decide +kernel
theorem main : laws_FnThreeSteps.Pure := by
  intro l hl1 hl2 hl3
  refine Ev.rounds ?_
  unfold laws_FnThreeSteps.f
  by_cases hb : (l.length : Int) > 1048576
  · exact Ev_eq fun k => by simp [big_eq, hb]
  obtain ⟨v0, e0, v00, v01⟩ := at_some l (by omega) hl3 0 (by omega)
  obtain ⟨v1, e1, v10, v11⟩ := at_some l (by omega) hl3 1 (by omega)
  refine Ev.congr (fun k => by rw [big_eq, Option.bind_some, if_neg (by simpa using hb), e0, Option.bind_some, e1, Option.bind_some]) ?_
  have t0 : Int.tmod v0 13 = ((v0 % 13).toNat : Int) := by rw [Int.tmod_eq_emod_of_nonneg v00]; omega
  have t1 : Int.tmod v1 13 = ((v1 % 13).toNat : Int) := by rw [Int.tmod_eq_emod_of_nonneg v10]; omega
  have b0 : (v0 % 13).toNat < 13 := by omega
  have b1 : (v1 % 13).toNat < 13 := by omega
  rw [t0, t1]
  have hc := all_chk ⟨(v0 % 13).toNat, b0⟩ ⟨(v1 % 13).toNat, b1⟩
  simp only at hc
  generalize (v0 % 13).toNat = a at *
  generalize (v1 % 13).toNat = b at *
  rw [wrap_id (n := -(a : Int)) (by omega) (by omega), wrap_id (n := (b : Int) - -(a : Int)) (by omega) (by omega), wrap_id (n := (b : Int) - -(a : Int) + 1) (by omega) (by omega)]
  unfold chk3 at hc
  split at hc
  · cases hc
  · rename_i s hs
    simp only [Bool.and_eq_true, decide_eq_true_eq] at hc
    obtain ⟨⟨⟨⟨⟨⟨c1, c2⟩, c3⟩, c4⟩, c5⟩, c6⟩, c7⟩ := hc
    split at c7
    · cases c7
    · rename_i sm bg ls hr
      simp only [Bool.and_eq_true, decide_eq_true_eq, List.all_eq_true] at c7
      obtain ⟨rfl, c7⟩ := c7
      have hl61 : s.length ≤ 61 := by have := c1.1.2; rw [List.length_map] at this; omega
      have hne : 1 ≤ s.length := by have := c1.1.1; rw [List.length_map] at this; omega
      have hchain := ichain_in (low := -(a : Int)) (high := (b : Int)) ⟨by omega, by omega, by omega⟩
      have hsteps := isteps_ev _ s c1 hs
      have hcount := icount_ev s (by omega) c4
      have hl1 := law_l1 s hl61 bg ls (fun j hj => c7 _ (by rw [rd_el hj]; exact List.getElem_mem _)) s.length 0 (by omega)
      have hl0 := law_l0 s hl61 (Sm := octv) hl1 s.length 0 pri (rd_T25 s 0) (rd_T25 s 0) (by omega) hr
      have p0 : impl_PureOf.f 0 0 0 = some (0, 0, 0, 1) := by rw [ipure_eq]; rfl
      have hj : Ev (fun k => laws_FnThreeSteps.j0 k s false) true := by
        refine Ev_round _ (fun k => ?_) hl0
        rw [laws_FnThreeSteps.j0, if_neg (by decide), p0, Option.bind_some, if_pos (by omega)]; rfl
      refine Ev.bind hchain (Ev.bind hsteps (Ev.congr (fun k => by rw [if_pos (by rw [List.length_map]; omega), if_pos (by rw [List.length_map]; omega)]) (Ev.bind hcount (Ev.congr (fun k => by rw [if_neg (by omega)]) (Ev.bind hcount ?_)))))
      rw [show decide (((uniq (s.map spl) : Nat) : Int) < 1) = false from decide_eq_false (by omega)]
      exact hj

end Go.Proofs.Ytfimodphnfejdaa.PureFnThreeSteps
