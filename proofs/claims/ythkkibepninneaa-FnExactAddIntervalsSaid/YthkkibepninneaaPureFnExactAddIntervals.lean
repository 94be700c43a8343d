/- The law FnExactAddIntervals returns true for all pairs of intervals of four whole numbers of 64 bits. -/
import Derived.Test.YthkkibepninneaaQFnExactAddIntervalsy3
import Derived.Test.YthkkibepninneaaM0
import Derived.Test.YthkkibepninneaaM2
namespace Go.Proofs.Ythkkibepninneaa.PureFnExactAddIntervals
open Go Go.RowKit Go.Proofs.Ythkkibepninneaa.PFnExactAddIntervals Go.Proofs.Ythkkibepninneaa.My Go.Proofs.YthkkibepninneaaW.PrintWords Go.Proofs.YthkkibepninneaaW.PrintLast Go.Proofs.YthkkibepninneaaW.PrintMore
set_option linter.unusedVariables false
set_option linter.unusedSimpArgs false
theorem within_eq (a b c : Int) : impl_within.f a b c = some (decide (b ≤ a ∧ a ≤ c)) := by
  unfold impl_within.f
  by_cases h : b ≤ a <;> simp [h]
theorem l01In_eq (a b c : Int) : spec_l01In.f a b c = some (decide (b ≤ a ∧ a ≤ c)) := by
  unfold spec_l01In.f
  by_cases h : b ≤ a <;> simp [h]
theorem iok_eq (a b c r : Int) : impl_IntervalOk.f a b c r = some (decide (Ok a b c r)) := by
  simp only [impl_IntervalOk.f, within_eq, Option.bind_some, Ok]
  by_cases h1 : 1 ≤ r ∧ r ≤ 12 <;> by_cases h2 : -400 ≤ a ∧ a ≤ 400 <;> by_cases h3 : -400 ≤ b ∧ b ≤ 400 <;> simp [h1, h2, h3]
theorem sok_eq (a b c r : Int) : spec_IntervalOk.f a b c r = some (decide (Ok a b c r)) := by
  simp only [spec_IntervalOk.f, l01In_eq, Option.bind_some, Ok]
  by_cases h1 : 1 ≤ r ∧ r ≤ 12 <;> by_cases h2 : -400 ≤ a ∧ a ≤ 400 <;> by_cases h3 : -400 ≤ b ∧ b ≤ 400 <;> simp [h1, h2, h3]
theorem idiv_loop (n : Nat) : ∀ (a b : Int), b.natAbs < n → a.natAbs ≤ 1000000000 → b.natAbs ≤ 1000000000 → Ev (fun k => impl_divisor.l0 k a b) ((Int.gcd a b : Nat) : Int) := by
  induction n with
  | zero => intro a b h; omega
  | succ n ih =>
    intro a b h ha hb
    by_cases h0 : b = 0
    · refine Ev_at1 fun k => ?_
      simp only [impl_divisor.l0]
      rw [if_pos h0, h0, Int.gcd_zero_right]
      by_cases hs : a < 0
      · rw [if_pos hs, wrap_id (by omega) (by omega)]; congr 1; omega
      · rw [if_neg hs]; congr 1; omega
    · have h1 := tmod_lt a b h0
      rw [← gcd_step a b]
      refine Ev_round _ (fun k => ?_) (ih b (a.tmod b) (by omega) hb (by omega))
      simp only [impl_divisor.l0]
      rw [if_neg h0]
theorem idiv_ev (a b : Int) (ha : a.natAbs ≤ 1000000000) (hb : b.natAbs ≤ 1000000000) : Ev (fun k => impl_divisor.f k a b) ((Int.gcd a b : Nat) : Int) := by
  unfold impl_divisor.f
  exact idiv_loop (b.natAbs + 1) a b (by omega) ha hb
theorem isimp_ev {a b c r : Int} (hr : 0 < r) (ha : a.natAbs ≤ 1000000000) (hb : b.natAbs ≤ 1000000000) (hc : c.natAbs ≤ 1000000000) (hr' : r.natAbs ≤ 1000000000) : Ev (fun k => impl_simplest.f k a b c r) (simp4 a b c r) := by
  have hp := g4_pos a b c hr
  have dv : ∀ x : Int, x.natAbs ≤ 1000000000 → ((g4 a b c r : Nat) : Int) ∣ x → wrap64 (x.tdiv ((g4 a b c r : Nat) : Int)) = x / ((g4 a b c r : Nat) : Int) := by
    intro x hx hd
    rw [wrap_id (tdiv_bd x _ hx).1 (tdiv_bd x _ hx).2, tdiv_dvd hd]
  unfold impl_simplest.f
  refine Ev.bind (idiv_ev a b ha hb) (Ev.bind (idiv_ev c r hc hr') (Ev.bind (idiv_ev _ _ (gcd_bd ha hb) (gcd_bd hc hr')) (Ev_eq fun k => ?_)))
  have e : Int.gcd ((Int.gcd a b : Nat) : Int) ((Int.gcd c r : Nat) : Int) = g4 a b c r := by simp [g4, Int.gcd]
  rw [e, if_neg (by omega), dv a ha (g4_dvd1 ..), dv b hb (g4_dvd2 ..), dv c hc (g4_dvd3 ..), dv r hr' (g4_dvd4 ..)]
  rfl
theorem sgcd_loop (n : Nat) : ∀ (a b : Int), b.natAbs < n → 0 ≤ a → 0 ≤ b → Ev (fun k => spec_l03Gcd.l0 k a b) ((Int.gcd a b : Nat) : Int) := by
  induction n with
  | zero => intro a b h; omega
  | succ n ih =>
    intro a b h ha hb
    by_cases h0 : b = 0
    · refine Ev_at1 fun k => ?_
      simp only [spec_l03Gcd.l0]
      rw [if_neg (by omega), h0, Int.gcd_zero_right]
      congr 1; omega
    · have h1 := tmod_lt a b h0
      rw [← gcd_step a b]
      refine Ev_round _ (fun k => ?_) (ih b (a.tmod b) (by omega) hb (Int.tmod_nonneg _ ha))
      simp only [spec_l03Gcd.l0]
      rw [if_pos (by omega), if_neg h0]
theorem mx_abs (a : Int) (ha : a.natAbs ≤ 1000000000) : mx a (wrap64 (-a)) = ((a.natAbs : Nat) : Int) := by
  rw [wrap_id (by omega) (by omega)]; unfold mx; split <;> omega
theorem sgcd_ev (a b : Int) (ha : a.natAbs ≤ 1000000000) (hb : b.natAbs ≤ 1000000000) : Ev (fun k => spec_l03Gcd.f k a b) ((Int.gcd a b : Nat) : Int) := by
  unfold spec_l03Gcd.f
  rw [mx_abs a ha, mx_abs b hb]
  have := sgcd_loop (b.natAbs + 1) ((a.natAbs : Nat) : Int) ((b.natAbs : Nat) : Int) (by omega) (by omega) (by omega)
  have e : Int.gcd ((a.natAbs : Nat) : Int) ((b.natAbs : Nat) : Int) = Int.gcd a b := by simp [Int.gcd]
  rw [e] at this
  exact this
theorem ssimp_ev {a b c r : Int} (hr : 0 < r) (ha : a.natAbs ≤ 1000000000) (hb : b.natAbs ≤ 1000000000) (hc : c.natAbs ≤ 1000000000) (hr' : r.natAbs ≤ 1000000000) : Ev (fun k => spec_l03Simple.f k a b c r) (simp4 a b c r) := by
  have hp := g4_pos a b c hr
  have dv : ∀ x : Int, x.natAbs ≤ 1000000000 → ((g4 a b c r : Nat) : Int) ∣ x → wrap64 (x.tdiv ((g4 a b c r : Nat) : Int)) = x / ((g4 a b c r : Nat) : Int) := by
    intro x hx hd
    rw [wrap_id (tdiv_bd x _ hx).1 (tdiv_bd x _ hx).2, tdiv_dvd hd]
  unfold spec_l03Simple.f
  refine Ev.bind (sgcd_ev a b ha hb) (Ev.bind (sgcd_ev c r hc hr') (Ev.bind (sgcd_ev _ _ (gcd_bd ha hb) (gcd_bd hc hr')) (Ev_eq fun k => ?_)))
  have e : Int.gcd ((Int.gcd a b : Nat) : Int) ((Int.gcd c r : Nat) : Int) = g4 a b c r := by simp [g4, Int.gcd]
  rw [e, if_neg (by omega), dv a ha (g4_dvd1 ..), dv b hb (g4_dvd2 ..), dv c hc (g4_dvd3 ..), dv r hr' (g4_dvd4 ..)]
  rfl
theorem iok_ev2 {a b c r : Int} (hr : 0 < r) (ha : a.natAbs ≤ 1000000000) (hb : b.natAbs ≤ 1000000000) (hc : c.natAbs ≤ 1000000000) (hr' : r.natAbs ≤ 1000000000) : Ev (fun k => impl_okInterval.f k a b c r) (chk (simp4 a b c r)) := by
  unfold impl_okInterval.f
  refine Ev.bind (isimp_ev hr ha hb hc hr') (Ev_eq fun k => ?_)
  simp only [iok_eq, Option.bind_some, chk]
  by_cases h : Ok (simp4 a b c r).1 (simp4 a b c r).2.1 (simp4 a b c r).2.2.1 (simp4 a b c r).2.2.2 <;> simp [h]
theorem sok_ev2 {a b c r : Int} (hr : 0 < r) (ha : a.natAbs ≤ 1000000000) (hb : b.natAbs ≤ 1000000000) (hc : c.natAbs ≤ 1000000000) (hr' : r.natAbs ≤ 1000000000) : Ev (fun k => spec_l03Checked.f k a b c r) (chk (simp4 a b c r)) := by
  unfold spec_l03Checked.f
  refine Ev.bind (ssimp_ev hr ha hb hc hr') (Ev_eq fun k => ?_)
  simp only [sok_eq, Option.bind_some, chk]
  by_cases h : Ok (simp4 a b c r).1 (simp4 a b c r).2.1 (simp4 a b c r).2.2.1 (simp4 a b c r).2.2.2 <;> simp [h]
theorem iadd_ev (a b c r a' b' c' r' : Int) : Ev (fun k => impl_AddIntervals.f k a b c r a' b' c' r') (addL a b c r a' b' c' r') := by
  unfold impl_AddIntervals.f
  by_cases h : Ok a b c r
  · by_cases h' : Ok a' b' c' r'
    · refine Ev_bindE (fun k => iok_eq ..) (Ev.congr (fun k => by rw [if_pos (by simpa using h)]) (Ev_bindE (fun k => iok_eq ..) (Ev.congr (fun k => by rw [if_pos (by simpa using h')]) ?_)))
      obtain ⟨k1, k2, k3, k4⟩ := h
      obtain ⟨l1, l2, l3, l4⟩ := h'
      have m1 := bd_mul k2 (show 0 ≤ r' ∧ r' ≤ 12 by omega) (by omega)
      have m2 := bd_mul k3 (show 0 ≤ r' ∧ r' ≤ 12 by omega) (by omega)
      have m3 := bd_mul k4 (show 0 ≤ r' ∧ r' ≤ 12 by omega) (by omega)
      have n1 := bd_mul l2 (show 0 ≤ r ∧ r ≤ 12 by omega) (by omega)
      have n2 := bd_mul l3 (show 0 ≤ r ∧ r ≤ 12 by omega) (by omega)
      have n3 := bd_mul l4 (show 0 ≤ r ∧ r ≤ 12 by omega) (by omega)
      have q1 := bd_mul (x := r) (y := r') (A := 12) (B := 12) (by omega) (by omega) (by omega)
      have q2 := Int.mul_pos (show 0 < r by omega) (show 0 < r' by omega)
      have e : addL a b c r a' b' c' r' = chk (simp4 (a * r' + a' * r) (b * r' + b' * r) (c * r' + c' * r) (r * r')) := by unfold addL; rw [if_pos ⟨⟨k1, k2, k3, k4⟩, ⟨l1, l2, l3, l4⟩⟩]
      rw [e]
      rw [wrap_id (n := a * r') (by omega) (by omega), wrap_id (n := b * r') (by omega) (by omega), wrap_id (n := c * r') (by omega) (by omega), wrap_id (n := a' * r) (by omega) (by omega), wrap_id (n := b' * r) (by omega) (by omega), wrap_id (n := c' * r) (by omega) (by omega), wrap_id (n := r * r') (by omega) (by omega),
        wrap_id (n := a * r' + a' * r) (by omega) (by omega), wrap_id (n := b * r' + b' * r) (by omega) (by omega), wrap_id (n := c * r' + c' * r) (by omega) (by omega)]
      exact Ev.bind (iok_ev2 q2 (by omega) (by omega) (by omega) (by omega)) (Ev_eq fun k => rfl)
    · refine Ev_bindE (fun k => iok_eq ..) (Ev.congr (fun k => by rw [if_pos (by simpa using h)]) (Ev_bindE (fun k => iok_eq ..) (Ev_eq fun k => ?_)))
      rw [if_neg (by simpa using h')]; simp [addL, h']
  · refine Ev_bindE (fun k => iok_eq ..) (Ev_eq fun k => ?_)
    rw [if_neg (by simpa using h)]; simp [addL, h]
theorem sadd_ev (a b c r a' b' c' r' : Int) : Ev (fun k => spec_AddIntervals.f k a b c r a' b' c' r') (addL a b c r a' b' c' r') := by
  unfold spec_AddIntervals.f
  by_cases h : Ok a b c r
  · by_cases h' : Ok a' b' c' r'
    · refine Ev_bindE (fun k => sok_eq ..) (Ev.congr (fun k => by rw [if_pos (by simpa using h)]) (Ev_bindE (fun k => sok_eq ..) (Ev.congr (fun k => by rw [if_pos (by simpa using h')]) ?_)))
      obtain ⟨k1, k2, k3, k4⟩ := h
      obtain ⟨l1, l2, l3, l4⟩ := h'
      have m1 := bd_mul k2 (show 0 ≤ r' ∧ r' ≤ 12 by omega) (by omega)
      have m2 := bd_mul k3 (show 0 ≤ r' ∧ r' ≤ 12 by omega) (by omega)
      have m3 := bd_mul k4 (show 0 ≤ r' ∧ r' ≤ 12 by omega) (by omega)
      have n1 := bd_mul l2 (show 0 ≤ r ∧ r ≤ 12 by omega) (by omega)
      have n2 := bd_mul l3 (show 0 ≤ r ∧ r ≤ 12 by omega) (by omega)
      have n3 := bd_mul l4 (show 0 ≤ r ∧ r ≤ 12 by omega) (by omega)
      have q1 := bd_mul (x := r) (y := r') (A := 12) (B := 12) (by omega) (by omega) (by omega)
      have q2 := Int.mul_pos (show 0 < r by omega) (show 0 < r' by omega)
      have e : addL a b c r a' b' c' r' = chk (simp4 (a * r' + a' * r) (b * r' + b' * r) (c * r' + c' * r) (r * r')) := by unfold addL; rw [if_pos ⟨⟨k1, k2, k3, k4⟩, ⟨l1, l2, l3, l4⟩⟩]
      rw [e]
      rw [wrap_id (n := a * r') (by omega) (by omega), wrap_id (n := b * r') (by omega) (by omega), wrap_id (n := c * r') (by omega) (by omega), wrap_id (n := a' * r) (by omega) (by omega), wrap_id (n := b' * r) (by omega) (by omega), wrap_id (n := c' * r) (by omega) (by omega), wrap_id (n := r * r') (by omega) (by omega),
        wrap_id (n := a * r' + a' * r) (by omega) (by omega), wrap_id (n := b * r' + b' * r) (by omega) (by omega), wrap_id (n := c * r' + c' * r) (by omega) (by omega)]
      exact Ev.bind (sok_ev2 q2 (by omega) (by omega) (by omega) (by omega)) (Ev_eq fun k => rfl)
    · refine Ev_bindE (fun k => sok_eq ..) (Ev.congr (fun k => by rw [if_pos (by simpa using h)]) (Ev_bindE (fun k => sok_eq ..) (Ev_eq fun k => ?_)))
      rw [if_neg (by simpa using h')]; simp [addL, h']
  · refine Ev_bindE (fun k => sok_eq ..) (Ev_eq fun k => ?_)
    rw [if_neg (by simpa using h)]; simp [addL, h]
theorem main (a b c r a' b' c' r' : Int) (_ : (Lit.int .i64 a).wf = true) (_ : (Lit.int .i64 b).wf = true) (_ : (Lit.int .i64 c).wf = true) (_ : (Lit.int .i64 r).wf = true)
    (_ : (Lit.int .i64 a').wf = true) (_ : (Lit.int .i64 b').wf = true) (_ : (Lit.int .i64 c').wf = true) (_ : (Lit.int .i64 r').wf = true) : ∃ k, laws_FnExactAddIntervals.f k a b c r a' b' c' r' = some true := by
  refine Ev.rounds ?_
  unfold laws_FnExactAddIntervals.f
  refine Ev_bindE (fun k => rfl) (Ev_bindE (fun k => rfl) (Ev.bind (sadd_ev ..) (Ev_bindE (fun k => rfl) (Ev_bindE (fun k => rfl) (Ev.bind (iadd_ev ..) (Ev_eq fun k => ?_))))))
  simp [laws_eqInterval.f]

end Go.Proofs.Ythkkibepninneaa.PureFnExactAddIntervals
