/- The law FnGroup returns true for all byte slices (the draws of three intervals that it reads from them). -/
import Derived.Test.YthkkibepninneaaQFnGroupy4
import Derived.Test.YthkkibepninneaaM0
import Derived.Test.YthkkibepninneaaM2
namespace Go.Proofs.Ythkkibepninneaa.PureFnGroup
open Go Go.RowKit Go.Proofs.Ythkkibepninneaa.PFnGroup Go.Proofs.Ythkkibepninneaa.My Go.Proofs.YthkkibepninneaaW.PrintWords Go.Proofs.YthkkibepninneaaW.PrintLast Go.Proofs.YthkkibepninneaaW.PrintMore
set_option linter.unusedVariables false
set_option linter.unusedSimpArgs false
theorem within_eq (a b c : Int) : impl_within.f a b c = some (decide (b ≤ a ∧ a ≤ c)) := by
  unfold impl_within.f
  by_cases h : b ≤ a <;> simp [h]
theorem iok_eq (a b c r : Int) : impl_IntervalOk.f a b c r = some (decide (Ok a b c r)) := by
  simp only [impl_IntervalOk.f, within_eq, Option.bind_some, Ok]
  by_cases h1 : 1 ≤ r ∧ r ≤ 12 <;> by_cases h2 : -400 ≤ a ∧ a ≤ 400 <;> by_cases h3 : -400 ≤ b ∧ b ≤ 400 <;> simp [h1, h2, h3]
theorem idiv_loop (n : Nat) : ∀ (a b : Int), b.natAbs < n → a.natAbs ≤ 1000000000 → b.natAbs ≤ 1000000000 → Ev (fun k => impl_divisor.l0 k a b) ((Int.gcd a b : Nat) : Int) := by
  induction n with
  | zero => intro a b h; omega
  | succ n ih =>
    intro a b h ha hb
    by_cases h0 : b = 0
    · refine Ev_at1 fun k => ?_
      simp only [impl_divisor.l0]
      rw [if_pos h0, h0, Int.gcd_zero_right]
      by_cases hs : a < 0
      · rw [if_pos hs, wrap_id (by omega) (by omega)]; congr 1; omega
      · rw [if_neg hs]; congr 1; omega
    · have h1 := tmod_lt a b h0
      rw [← gcd_step a b]
      refine Ev_round _ (fun k => ?_) (ih b (a.tmod b) (by omega) hb (by omega))
      simp only [impl_divisor.l0]
      rw [if_neg h0]
theorem idiv_ev (a b : Int) (ha : a.natAbs ≤ 1000000000) (hb : b.natAbs ≤ 1000000000) : Ev (fun k => impl_divisor.f k a b) ((Int.gcd a b : Nat) : Int) := by
  unfold impl_divisor.f
  exact idiv_loop (b.natAbs + 1) a b (by omega) ha hb
theorem isimp_ev {a b c r : Int} (hr : 0 < r) (ha : a.natAbs ≤ 1000000000) (hb : b.natAbs ≤ 1000000000) (hc : c.natAbs ≤ 1000000000) (hr' : r.natAbs ≤ 1000000000) : Ev (fun k => impl_simplest.f k a b c r) (simp4 a b c r) := by
  have hp := g4_pos a b c hr
  have dv : ∀ x : Int, x.natAbs ≤ 1000000000 → ((g4 a b c r : Nat) : Int) ∣ x → wrap64 (x.tdiv ((g4 a b c r : Nat) : Int)) = x / ((g4 a b c r : Nat) : Int) := by
    intro x hx hd
    rw [wrap_id (tdiv_bd x _ hx).1 (tdiv_bd x _ hx).2, tdiv_dvd hd]
  unfold impl_simplest.f
  refine Ev.bind (idiv_ev a b ha hb) (Ev.bind (idiv_ev c r hc hr') (Ev.bind (idiv_ev _ _ (gcd_bd ha hb) (gcd_bd hc hr')) (Ev_eq fun k => ?_)))
  have e : Int.gcd ((Int.gcd a b : Nat) : Int) ((Int.gcd c r : Nat) : Int) = g4 a b c r := by simp [g4, Int.gcd]
  rw [e, if_neg (by omega), dv a ha (g4_dvd1 ..), dv b hb (g4_dvd2 ..), dv c hc (g4_dvd3 ..), dv r hr' (g4_dvd4 ..)]
  rfl
theorem iok_ev2 {a b c r : Int} (hr : 0 < r) (ha : a.natAbs ≤ 1000000000) (hb : b.natAbs ≤ 1000000000) (hc : c.natAbs ≤ 1000000000) (hr' : r.natAbs ≤ 1000000000) : Ev (fun k => impl_okInterval.f k a b c r) (chk (simp4 a b c r)) := by
  unfold impl_okInterval.f
  refine Ev.bind (isimp_ev hr ha hb hc hr') (Ev_eq fun k => ?_)
  simp only [iok_eq, Option.bind_some, chk]
  by_cases h : Ok (simp4 a b c r).1 (simp4 a b c r).2.1 (simp4 a b c r).2.2.1 (simp4 a b c r).2.2.2 <;> simp [h]
theorem iadd_ev (a b c r a' b' c' r' : Int) : Ev (fun k => impl_AddIntervals.f k a b c r a' b' c' r') (addL a b c r a' b' c' r') := by
  unfold impl_AddIntervals.f
  by_cases h : Ok a b c r
  · by_cases h' : Ok a' b' c' r'
    · refine Ev_bindE (fun k => iok_eq ..) (Ev.congr (fun k => by rw [if_pos (by simpa using h)]) (Ev_bindE (fun k => iok_eq ..) (Ev.congr (fun k => by rw [if_pos (by simpa using h')]) ?_)))
      obtain ⟨k1, k2, k3, k4⟩ := h
      obtain ⟨l1, l2, l3, l4⟩ := h'
      have m1 := bd_mul k2 (show 0 ≤ r' ∧ r' ≤ 12 by omega) (by omega)
      have m2 := bd_mul k3 (show 0 ≤ r' ∧ r' ≤ 12 by omega) (by omega)
      have m3 := bd_mul k4 (show 0 ≤ r' ∧ r' ≤ 12 by omega) (by omega)
      have n1 := bd_mul l2 (show 0 ≤ r ∧ r ≤ 12 by omega) (by omega)
      have n2 := bd_mul l3 (show 0 ≤ r ∧ r ≤ 12 by omega) (by omega)
      have n3 := bd_mul l4 (show 0 ≤ r ∧ r ≤ 12 by omega) (by omega)
      have q1 := bd_mul (x := r) (y := r') (A := 12) (B := 12) (by omega) (by omega) (by omega)
      have q2 := Int.mul_pos (show 0 < r by omega) (show 0 < r' by omega)
      have e : addL a b c r a' b' c' r' = chk (simp4 (a * r' + a' * r) (b * r' + b' * r) (c * r' + c' * r) (r * r')) := by unfold addL; rw [if_pos ⟨⟨k1, k2, k3, k4⟩, ⟨l1, l2, l3, l4⟩⟩]
      rw [e]
      rw [wrap_id (n := a * r') (by omega) (by omega), wrap_id (n := b * r') (by omega) (by omega), wrap_id (n := c * r') (by omega) (by omega), wrap_id (n := a' * r) (by omega) (by omega), wrap_id (n := b' * r) (by omega) (by omega), wrap_id (n := c' * r) (by omega) (by omega), wrap_id (n := r * r') (by omega) (by omega),
        wrap_id (n := a * r' + a' * r) (by omega) (by omega), wrap_id (n := b * r' + b' * r) (by omega) (by omega), wrap_id (n := c * r' + c' * r) (by omega) (by omega)]
      exact Ev.bind (iok_ev2 q2 (by omega) (by omega) (by omega) (by omega)) (Ev_eq fun k => rfl)
    · refine Ev_bindE (fun k => iok_eq ..) (Ev.congr (fun k => by rw [if_pos (by simpa using h)]) (Ev_bindE (fun k => iok_eq ..) (Ev_eq fun k => ?_)))
      rw [if_neg (by simpa using h')]; simp [addL, h']
  · refine Ev_bindE (fun k => iok_eq ..) (Ev_eq fun k => ?_)
    rw [if_neg (by simpa using h)]; simp [addL, h]
theorem itimesI_ev (a b c r n : Int) : Ev (fun k => impl_TimesInterval.f k a b c r n) (timesL a b c r n) := by
  unfold impl_TimesInterval.f
  by_cases h : Ok a b c r
  · by_cases h' : -400 ≤ n ∧ n ≤ 400
    · obtain ⟨k1, k2, k3, k4⟩ := id h
      refine Ev_bindE (fun k => iok_eq ..) (Ev.congr (fun k => by rw [if_pos (by simpa using h)]) (Ev_bindE (fun k => within_eq ..) (Ev.congr (fun k => by rw [if_pos (by simpa using h')]) ?_)))
      have m1 := bd_mul2 k2 h' (by omega)
      have m2 := bd_mul2 k3 h' (by omega)
      have m3 := bd_mul2 k4 h' (by omega)
      have e : timesL a b c r n = chk (simp4 (a * n) (b * n) (c * n) r) := by unfold timesL; rw [if_pos ⟨h, h'⟩]
      rw [e, wrap_id (n := a * n) (by omega) (by omega), wrap_id (n := b * n) (by omega) (by omega), wrap_id (n := c * n) (by omega) (by omega)]
      exact Ev.bind (iok_ev2 (by omega) (by omega) (by omega) (by omega) (by omega)) (Ev_eq fun k => rfl)
    · refine Ev_bindE (fun k => iok_eq ..) (Ev.congr (fun k => by rw [if_pos (by simpa using h)]) (Ev_bindE (fun k => within_eq ..) (Ev_eq fun k => ?_)))
      rw [if_neg (by simpa using h')]; simp [timesL, h']
  · refine Ev_bindE (fun k => iok_eq ..) (Ev_eq fun k => ?_)
    rw [if_neg (by simpa using h)]; simp [timesL, h]
theorem isimpof_ev (a b c r : Int) : Ev (fun k => impl_SimplestOf.f k a b c r) (simpL a b c r) := by
  unfold impl_SimplestOf.f
  by_cases h : Ok a b c r
  · obtain ⟨k1, k2, k3, k4⟩ := id h
    refine Ev_bindE (fun k => iok_eq ..) (Ev.congr (fun k => by rw [if_pos (by simpa using h)]) (Ev.bind (isimp_ev (a := a) (b := b) (c := c) (r := r) (by omega) (by omega) (by omega) (by omega) (by omega)) (Ev_eq fun k => ?_)))
    simp [simpL, h]
  · refine Ev_bindE (fun k => iok_eq ..) (Ev_eq fun k => ?_)
    rw [if_neg (by simpa using h)]; simp [simpL, h]
theorem ipure_eq (a b c : Int) : impl_PureOf.f a b c = some (if Ok a b c 1 then (a, b, c, 1) else (0, 0, 0, 0)) := by
  simp only [impl_PureOf.f, iok_eq, Option.bind_some]
  by_cases h : Ok a b c 1 <;> simp [h]
theorem and255 (x : Int) : 0 ≤ Go.bits .and .i64 x 255 ∧ Go.bits .and .i64 x 255 ≤ 255 := by
  have h : ((BitVec.ofInt 64 x) &&& (BitVec.ofInt 64 255)).toNat ≤ 255 := by
    rw [BitVec.toNat_and]; exact Nat.le_trans Nat.and_le_right (by decide)
  have e : Go.bits .and .i64 x 255 = IntKind.i64.wrap ((((BitVec.ofInt 64 x) &&& (BitVec.ofInt 64 255)).toNat : Nat) : Int) := rfl
  rw [e]
  generalize ((BitVec.ofInt 64 x) &&& (BitVec.ofInt 64 255)).toNat = n at *
  have : IntKind.i64.wrap (n : Int) = n := by
    have h1 : ((n : Nat) : Int) % (2 ^ 64 : Int) = n := Int.emod_eq_of_lt (by omega) (by omega)
    simp only [IntKind.wrap, IntKind.signed, IntKind.bits, h1]
    rw [if_neg (by simp; omega)]
  omega
def Cur (l : List Int) (i : Int) : Prop := l.length ≤ 1048576 ∧ 0 ≤ i ∧ i ≤ (l.length : Int)
theorem new_loop (l : List Int) (hl : l.length ≤ 1048576) : ∀ (d i : Nat) (h : Int), i + d = l.length → ∃ h', Ev (fun k => spec_l01New.l0 k l h (i : Int)) (l, 0, h') := by
  intro d
  induction d with
  | zero =>
    intro i h hi
    refine ⟨h, Ev_at1 fun k => ?_⟩
    simp only [spec_l01New.l0]
    rw [if_neg (by omega)]
  | succ d ih =>
    intro i h hi
    by_cases hs : (i : Int) < 4000
    · obtain ⟨h', he⟩ := ih (i + 1) (Go.bits .and .i64 (wrap64 ((wrap64 ((wrap64 (h * 131)) + (wrap64 (rd l (i : Int))))) + 7)) 1073741823) (by omega)
      refine ⟨h', Ev_round _ (fun k => ?_) he⟩
      simp only [spec_l01New.l0]
      rw [if_pos (by omega), if_pos hs, if_pos (by omega), wrap_id (n := (i : Int) + 1) (by omega) (by omega)]
      simp
    · refine ⟨h, Ev_at1 fun k => ?_⟩
      simp only [spec_l01New.l0]
      rw [if_pos (by omega), if_neg hs]
theorem new_ev (l : List Int) (hl : l.length ≤ 1048576) : ∃ h, Ev (fun k => spec_l01New.f k l) (l, 0, h) := by
  obtain ⟨h, he⟩ := new_loop l hl l.length 0 (wrap64 (98939 + (l.length : Int))) (by simp)
  exact ⟨h, by simpa [spec_l01New.f] using he⟩
theorem cur0 (l : List Int) (hl : l.length ≤ 1048576) : Cur l 0 := ⟨hl, by omega, by omega⟩
theorem byte_some {l : List Int} {i : Int} (h : Int) (c : Cur l i) : ∃ v i' h', spec_l01Byte.f l i h = some (v, i', h') ∧ Cur l i' ∧ 0 ≤ v ∧ v ≤ 255 := by
  obtain ⟨c0, c1, c2⟩ := c
  unfold spec_l01Byte.f
  by_cases hi : i < (l.length : Int)
  · rw [if_pos hi, if_pos c1, wrap_id (n := i + 1) (by omega) (by omega)]
    exact ⟨_, _, _, rfl, ⟨c0, by omega, by omega⟩, and255 _⟩
  · rw [if_neg hi]
    exact ⟨_, _, _, rfl, ⟨c0, c1, c2⟩, and255 _⟩
theorem tmod_lt_pos {x n : Int} (hx : 0 ≤ x) (hn : 0 < n) : 0 ≤ x.tmod n ∧ x.tmod n < n := by
  rw [Int.tmod_eq_emod_of_nonneg hx]
  exact ⟨Int.emod_nonneg _ (by omega), Int.emod_lt_of_pos _ hn⟩
theorem below_some {l : List Int} {i : Int} (h : Int) (n : Int) (c : Cur l i) : ∃ v i' h', spec_l01Below.f l i h n = some (v, i', h') ∧ Cur l i' ∧ 0 ≤ v ∧ (0 < n → v < n) ∧ (n ≤ 0 → v = 0) := by
  unfold spec_l01Below.f
  by_cases h0 : n ≤ 0
  · rw [if_pos h0]; exact ⟨_, _, _, rfl, c, by omega, by omega, by omega⟩
  · rw [if_neg h0]
    by_cases h1 : n ≤ 256
    · obtain ⟨v, i', h', e, c', v0, v1⟩ := byte_some h c
      rw [if_pos h1, e, Option.bind_some, if_neg (by omega)]
      have := tmod_lt_pos v0 (show 0 < n by omega)
      exact ⟨_, _, _, rfl, c', this.1, fun _ => this.2, by omega⟩
    · rw [if_neg h1]
      obtain ⟨x, i1, h1, e1, c1, x0, x1⟩ := byte_some h c
      obtain ⟨y, i2, h2, e2, c2, y0, y1⟩ := byte_some h1 c1
      obtain ⟨z, i3, h3, e3, c3, z0, z1⟩ := byte_some h2 c2
      obtain ⟨w, i4, h4, e4, c4, w0, w1⟩ := byte_some h3 c3
      simp only [e1, e2, e3, e4, Option.bind_some]
      rw [if_neg (by omega), wrap_id (n := x * 16777216) (by omega) (by omega), wrap_id (n := y * 65536) (by omega) (by omega), wrap_id (n := z * 256) (by omega) (by omega), wrap_id (n := x * 16777216 + y * 65536) (by omega) (by omega), wrap_id (n := x * 16777216 + y * 65536 + z * 256) (by omega) (by omega), wrap_id (by omega) (by omega)]
      have := tmod_lt_pos (x := x * 16777216 + y * 65536 + z * 256 + w) (by omega) (show 0 < n by omega)
      exact ⟨_, _, _, rfl, c4, this.1, fun _ => this.2, by omega⟩
theorem pickInt_some {l : List Int} {i : Int} (h : Int) (m : List Int) (hm : m ≠ []) (c : Cur l i) : ∃ v i' h', spec_l01PickInt.f l i h m = some (v, i', h') ∧ Cur l i' ∧ v ∈ m := by
  have hp : 0 < m.length := List.length_pos_iff.2 hm
  obtain ⟨v, i', h', e, c', v0, v1, _⟩ := below_some h (m.length : Int) c
  have v1 := v1 (by omega)
  unfold spec_l01PickInt.f
  rw [e, Option.bind_some, if_pos v0, if_pos v1]
  exact ⟨_, _, _, rfl, c', rd_mem m v v0 v1⟩
theorem interval_some {l : List Int} {i : Int} (h : Int) (c : Cur l i) : ∃ a b d r i' h', spec_l03Interval.f l i h = some (a, b, d, r, i', h') ∧ Cur l i' ∧ (-12 ≤ a ∧ a ≤ 12) ∧ (-6 ≤ b ∧ b ≤ 6) ∧ (-3 ≤ d ∧ d ≤ 3) ∧ (r = 1 ∨ r = 2 ∨ r = 4 ∨ r = 12) := by
  obtain ⟨x, i1, h1, e1, c1, x0, x1, _⟩ := below_some h 25 c
  obtain ⟨y, i2, h2, e2, c2, y0, y1, _⟩ := below_some h1 13 c1
  obtain ⟨z, i3, h3, e3, c3, z0, z1, _⟩ := below_some h2 7 c2
  obtain ⟨r, i4, h4, e4, c4, hr⟩ := pickInt_some h3 [1, 1, 1, 2, 4, 12] (by simp) c3
  have x1 := x1 (by omega)
  have y1 := y1 (by omega)
  have z1 := z1 (by omega)
  unfold spec_l03Interval.f
  simp only [e1, e2, e3, e4, Option.bind_some]
  refine ⟨_, _, _, _, _, _, rfl, c4, ?_, ?_, ?_, ?_⟩
  · rw [wrap_id (by omega) (by omega)]; omega
  · rw [wrap_id (by omega) (by omega)]; omega
  · rw [wrap_id (by omega) (by omega)]; omega
  · simp only [List.mem_cons, List.not_mem_nil, or_false] at hr; omega
def Drawn (a b c r : Int) : Prop := (-12 ≤ a ∧ a ≤ 12) ∧ (-6 ≤ b ∧ b ≤ 6) ∧ (-3 ≤ c ∧ c ≤ 3) ∧ (r = 1 ∨ r = 2 ∨ r = 4 ∨ r = 12)
theorem Drawn.ok {a b c r : Int} (h : Drawn a b c r) : Ok a b c r := by
  obtain ⟨h1, h2, h3, h4⟩ := h
  exact ⟨by omega, by omega, by omega, by omega⟩
theorem intervals_ev (l : List Int) (hl : l.length ≤ 1048576) : ∃ a b c r a' b' c' r' a'' b'' c'' r'', Ev (fun k => spec_DrawIntervals.f k l) (a, b, c, r, a', b', c', r', a'', b'', c'', r'') ∧ Drawn a b c r ∧ Drawn a' b' c' r' ∧ Drawn a'' b'' c'' r'' := by
  obtain ⟨h, he⟩ := new_ev l hl
  obtain ⟨a, b, c, r, i1, h1, e1, c1, p1⟩ := interval_some h (cur0 l hl)
  obtain ⟨a', b', c', r', i2, h2, e2, c2, p2⟩ := interval_some h1 c1
  obtain ⟨a'', b'', c'', r'', i3, h3, e3, c3, p3⟩ := interval_some h2 c2
  refine ⟨a, b, c, r, a', b', c', r', a'', b'', c'', r'', ?_, p1, p2, p3⟩
  unfold spec_DrawIntervals.f
  refine Ev.bind he (Ev_eq fun k => ?_)
  simp only [e1, e2, e3, Option.bind_some]
theorem big_eq (l : List Int) : laws_big.f l = some (decide ((l.length : Int) > 1048576)) := rfl
theorem bne4 (v w : Iv) (h : v = w) : (!(v.1 == w.1) || (!(v.2.1 == w.2.1) || (!(v.2.2.1 == w.2.2.1) || (!(v.2.2.2 == w.2.2.2))))) = false := by subst h; simp
theorem j1_ev {a b c r : Int} (o : Ok a b c r) : Ev (fun k => laws_FnGroup.j1 k false a b c r) true := by
  obtain ⟨o1, o2, o3, o4⟩ := id o
  obtain ⟨n1, n2, n3, n4, hn, hn', on, ⟨an1, an2, an3⟩, pn⟩ := chk_to (a := a * -1) (b := b * -1) (c := c * -1) (r := r) (A := a * -1) (B := b * -1) (C := c * -1) (R := r) o.pos (Alike.refl _) ⟨o1, by omega, by omega, by omega⟩
  simp only at an1 an2 an3
  obtain ⟨z1, z2, z3, z4, hz, hz', oz, az, pz⟩ := chk_to (a := a * n4 + n1 * r) (b := b * n4 + n2 * r) (c := c * n4 + n3 * r) (r := r * n4) (A := 0) (B := 0) (C := 0) (R := 1) (Int.mul_pos o.pos pn) ⟨by simp only; grind, by simp only; grind, by simp only; grind⟩ ⟨by omega, by omega, by omega, by omega⟩
  have en : (z1, z2, z3, z4) = (0, 0, 0, 1) := hz'.symm.trans (simp4_one 0 0 0)
  simp only [Prod.mk.injEq] at en
  obtain ⟨rfl, rfl, rfl, rfl⟩ := en
  obtain ⟨s1, s2, s3, s4, hs, hs', os, hsx, ps⟩ := chk_to (a := a) (b := b) (c := c) (r := r) (A := a) (B := b) (C := c) (R := r) o.pos (Alike.refl _) o
  have c1 := itimesI_ev a b c r (-1)
  rw [timesL_eq o (by omega), hn] at c1
  have c2 := iadd_ev a b c r n1 n2 n3 n4
  rw [addL_eq o on, hz] at c2
  have c3 := isimpof_ev a b c r
  have e3 : simpL a b c r = (s1, s2, s3, s4) := by unfold simpL; rw [if_pos o, hs']
  rw [e3] at c3
  have c4 := isimpof_ev s1 s2 s3 s4
  have e4 : simpL s1 s2 s3 s4 = (s1, s2, s3, s4) := by
    unfold simpL; rw [if_pos os]
    have := simp4_idem a b c o.pos
    rw [hs'] at this; exact this
  rw [e4] at c4
  refine Ev_round _ (fun k => by simp only [laws_FnGroup.j1, Bool.false_eq_true, if_false]; rfl) (Ev.bind c1 (Ev.bind c2 (Ev.bind c3 ?_)))
  refine Ev.congr (f := fun k => (impl_SimplestOf.f k s1 s2 s3 s4).bind fun bt281 => (if (bt281.1 == s1 && (bt281.2.1 == s2 && (bt281.2.2.1 == s3 && (bt281.2.2.2 == s4)))) = true then ((impl_IntervalOk.f s1 s2 s3 s4).bind fun t285 => (some t285)) else (some false))) (fun k => ?_) (Ev.bind c4 (Ev_eq fun k => ?_))
  · rw [ipure_eq]; simp [Ok]
  · simp [iok_eq, os]
theorem main : laws_FnGroup.Pure := by
  intro l hl1 hl2 hl3
  refine Ev.rounds ?_
  unfold laws_FnGroup.f
  by_cases hb : (l.length : Int) > 1048576
  · exact Ev_eq fun k => by simp [big_eq, hb]
  obtain ⟨a, b, c, r, a', b', c', r', a'', b'', c'', r'', he, d1, d2, d3⟩ := intervals_ev l (by omega)
  have hx := iadd_ev a b c r a' b' c' r'
  have hy := iadd_ev a' b' c' r' a b c r
  rw [← addL_comm] at hy
  generalize hX : addL a b c r a' b' c' r' = X at hx hy
  obtain ⟨x1, x2, x3, x4, one⟩ := X
  refine Ev.congr (fun k => by rw [big_eq, Option.bind_some, if_neg (by simpa using hb)]) (Ev.bind he (Ev.bind hx (Ev.bind hy ?_)))
  refine Ev.congr (f := fun k => laws_FnGroup.j0 k one false a b c r a' b' c' r' a'' b'' c'' r'' x1 x2 x3 x4) (fun k => by simp) ?_
  have hu := iadd_ev a' b' c' r' a'' b'' c'' r''
  have hv := iadd_ev x1 x2 x3 x4 a'' b'' c'' r''
  generalize hU : addL a' b' c' r' a'' b'' c'' r'' = U at hu
  generalize hV : addL x1 x2 x3 x4 a'' b'' c'' r'' = V at hv
  obtain ⟨u1, u2, u3, u4, three⟩ := U
  obtain ⟨v1, v2, v3, v4, four⟩ := V
  have hw := iadd_ev a b c r u1 u2 u3 u4
  generalize hW : addL a b c r u1 u2 u3 u4 = W at hw
  obtain ⟨w1, w2, w3, w4, five⟩ := W
  refine Ev_round _ (fun k => by simp only [laws_FnGroup.j0, Bool.false_eq_true, if_false]; rfl) (Ev.bind hu (Ev.bind hv (Ev.bind hw ?_)))
  have hj := j1_ev d1.ok
  cases one <;> cases three <;> cases four <;> cases five <;> try exact hj
  have e := bne4 (v1, v2, v3, v4) (w1, w2, w3, w4) (addL_assoc hX hU hV hW)
  simp only at e
  refine Ev.congr (f := fun k => laws_FnGroup.j1 k false a b c r) (fun k => ?_) hj
  simp only [if_true, e]

end Go.Proofs.Ythkkibepninneaa.PureFnGroup
