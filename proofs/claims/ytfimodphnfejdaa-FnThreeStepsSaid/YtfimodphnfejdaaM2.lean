import Derived.Test.YtfimodphnfejdaaM0
namespace Go.Proofs.Ytfimodphnfejdaa.My
open Go Go.RowKit Go.Proofs.YtfimodphnfejdaaW.PrintWords Go.Proofs.YtfimodphnfejdaaW.PrintLast Go.Proofs.YtfimodphnfejdaaW.PrintMore

/-! Four numbers without a common divisor. -/
abbrev Iv := Int × Int × Int × Int
def g4 (a b c r : Int) : Nat := Nat.gcd (Int.gcd a b) (Int.gcd c r)
def simp4 (a b c r : Int) : Iv := (a / (g4 a b c r : Int), b / (g4 a b c r : Int), c / (g4 a b c r : Int), r / (g4 a b c r : Int))
theorem g4_dvd1 (a b c r : Int) : ((g4 a b c r : Nat) : Int) ∣ a := Int.dvd_trans (Int.ofNat_dvd.2 (Nat.gcd_dvd_left _ _)) (Int.gcd_dvd_left ..)
theorem g4_dvd2 (a b c r : Int) : ((g4 a b c r : Nat) : Int) ∣ b := Int.dvd_trans (Int.ofNat_dvd.2 (Nat.gcd_dvd_left _ _)) (Int.gcd_dvd_right ..)
theorem g4_dvd3 (a b c r : Int) : ((g4 a b c r : Nat) : Int) ∣ c := Int.dvd_trans (Int.ofNat_dvd.2 (Nat.gcd_dvd_right _ _)) (Int.gcd_dvd_left ..)
theorem g4_dvd4 (a b c r : Int) : ((g4 a b c r : Nat) : Int) ∣ r := Int.dvd_trans (Int.ofNat_dvd.2 (Nat.gcd_dvd_right _ _)) (Int.gcd_dvd_right ..)
theorem g4_pos (a b c : Int) {r : Int} (h : 0 < r) : 0 < g4 a b c r := by
  refine Nat.pos_of_ne_zero fun e => ?_
  have := g4_dvd4 a b c r
  rw [e] at this
  obtain ⟨x, hx⟩ := this
  rw [Int.natCast_zero, Int.zero_mul] at hx
  omega
theorem g4_mul (k a b c r : Int) : g4 (k * a) (k * b) (k * c) (k * r) = k.natAbs * g4 a b c r := by
  unfold g4; rw [Int.gcd_mul_left, Int.gcd_mul_left, Nat.gcd_mul_left]
/-- The simplest form: its parts, and what they were multiplied by. -/
theorem simp4_spec (a b c : Int) {r : Int} (h : 0 < r) : ∃ G s1 s2 s3 s4 : Int, simp4 a b c r = (s1, s2, s3, s4) ∧ 0 < G ∧ a = G * s1 ∧ b = G * s2 ∧ c = G * s3 ∧ r = G * s4 ∧ 0 < s4 ∧ g4 s1 s2 s3 s4 = 1 := by
  have hp := g4_pos a b c h
  obtain ⟨s1, h1⟩ := g4_dvd1 a b c r
  obtain ⟨s2, h2⟩ := g4_dvd2 a b c r
  obtain ⟨s3, h3⟩ := g4_dvd3 a b c r
  obtain ⟨s4, h4⟩ := g4_dvd4 a b c r
  generalize hG : g4 a b c r = G at *
  have hG0 : (0 : Int) < (G : Int) := by omega
  have hne : (G : Int) ≠ 0 := by omega
  refine ⟨G, s1, s2, s3, s4, ?_, hG0, h1, h2, h3, h4, ?_, ?_⟩
  · unfold simp4
    rw [hG, h1, h2, h3, h4, Int.mul_ediv_cancel_left _ hne, Int.mul_ediv_cancel_left _ hne, Int.mul_ediv_cancel_left _ hne, Int.mul_ediv_cancel_left _ hne]
  · rw [h4] at h; exact Int.pos_of_mul_pos_right h hG0 |> fun q => q
  · have := g4_mul G s1 s2 s3 s4
    rw [← h1, ← h2, ← h3, ← h4, hG, Int.natAbs_natCast] at this
    exact Nat.eq_of_mul_eq_mul_left hp (by rw [← this, Nat.mul_one])
/-- Two tuples of the same size (both last numbers positive). -/
def Alike (x y : Iv) : Prop := x.1 * y.2.2.2 = y.1 * x.2.2.2 ∧ x.2.1 * y.2.2.2 = y.2.1 * x.2.2.2 ∧ x.2.2.1 * y.2.2.2 = y.2.2.1 * x.2.2.2
theorem coprime_eq {s1 s2 s3 s4 t1 t2 t3 t4 : Int} (gs : g4 s1 s2 s3 s4 = 1) (h1 : s1 * t4 = t1 * s4) (h2 : s2 * t4 = t2 * s4) (h3 : s3 * t4 = t3 * s4) : s4 ∣ t4 := by
  have e := g4_mul t4 s1 s2 s3 s4
  rw [gs, Nat.mul_one, Int.mul_comm t4 s1, Int.mul_comm t4 s2, Int.mul_comm t4 s3, h1, h2, h3, Int.mul_comm t1, Int.mul_comm t2, Int.mul_comm t3, Int.mul_comm t4, g4_mul] at e
  have : s4.natAbs ∣ t4.natAbs := ⟨_, e.symm⟩
  exact Int.natAbs_dvd_natAbs.1 this
theorem simp4_congr {a b c r a' b' c' r' : Int} (h : 0 < r) (h' : 0 < r') (e : Alike (a, b, c, r) (a', b', c', r')) : simp4 a b c r = simp4 a' b' c' r' := by
  obtain ⟨G, s1, s2, s3, s4, hs, hG, ha, hb, hc, hr, hs4, gs⟩ := simp4_spec a b c h
  obtain ⟨K, t1, t2, t3, t4, ht, hK, ha', hb', hc', hr', ht4, gt⟩ := simp4_spec a' b' c' h'
  obtain ⟨e1, e2, e3⟩ := e
  simp only at e1 e2 e3
  have hGK : G * K ≠ 0 := Int.ne_of_gt (Int.mul_pos hG hK)
  have cross : ∀ s t u v : Int, (G * s) * (K * v) = (K * t) * (G * u) → s * v = t * u := by
    intro s t u v q
    have : (G * K) * (s * v) = (G * K) * (t * u) := by
      calc (G * K) * (s * v) = (G * s) * (K * v) := by ac_rfl
        _ = (K * t) * (G * u) := q
        _ = (G * K) * (t * u) := by ac_rfl
    exact Int.eq_of_mul_eq_mul_left hGK this
  rw [ha, ha', hr, hr'] at e1
  rw [hb, hb', hr, hr'] at e2
  rw [hc, hc', hr, hr'] at e3
  have f1 := cross _ _ _ _ e1
  have f2 := cross _ _ _ _ e2
  have f3 := cross _ _ _ _ e3
  have d1 := coprime_eq gs f1 f2 f3
  have d2 := coprime_eq gt f1.symm f2.symm f3.symm
  have e4 : s4 = t4 := Int.dvd_antisymm (by omega) (by omega) d1 d2
  subst e4
  have hne : s4 ≠ 0 := by omega
  rw [hs, ht, Int.eq_of_mul_eq_mul_right hne f1, Int.eq_of_mul_eq_mul_right hne f2, Int.eq_of_mul_eq_mul_right hne f3]
theorem Alike.symm {x y : Iv} (h : Alike x y) : Alike y x := ⟨h.1.symm, h.2.1.symm, h.2.2.symm⟩
theorem Alike.refl (x : Iv) : Alike x x := ⟨rfl, rfl, rfl⟩
theorem Alike.trans {x y z : Iv} (hy : 0 < y.2.2.2) (h : Alike x y) (k : Alike y z) : Alike x z := by
  have hne : y.2.2.2 ≠ 0 := by omega
  have key : ∀ a b c : Int, a * y.2.2.2 = b * x.2.2.2 → b * z.2.2.2 = c * y.2.2.2 → a * z.2.2.2 = c * x.2.2.2 := by
    intro a b c p q
    refine Int.eq_of_mul_eq_mul_left hne ?_
    calc y.2.2.2 * (a * z.2.2.2) = (a * y.2.2.2) * z.2.2.2 := by ac_rfl
      _ = (b * x.2.2.2) * z.2.2.2 := by rw [p]
      _ = (b * z.2.2.2) * x.2.2.2 := by ac_rfl
      _ = (c * y.2.2.2) * x.2.2.2 := by rw [q]
      _ = y.2.2.2 * (c * x.2.2.2) := by ac_rfl
  exact ⟨key _ _ _ h.1 k.1, key _ _ _ h.2.1 k.2.1, key _ _ _ h.2.2 k.2.2⟩
theorem simp4_alike (a b c : Int) {r : Int} (h : 0 < r) : Alike (a, b, c, r) (simp4 a b c r) := by
  obtain ⟨G, s1, s2, s3, s4, hs, hG, ha, hb, hc, hr, hs4, gs⟩ := simp4_spec a b c h
  rw [hs]
  refine ⟨?_, ?_, ?_⟩ <;> simp only [] <;> rw [hr]
  · rw [ha]; ac_rfl
  · rw [hb]; ac_rfl
  · rw [hc]; ac_rfl
theorem simp4_pos (a b c : Int) {r : Int} (h : 0 < r) : 0 < (simp4 a b c r).2.2.2 := by
  obtain ⟨G, s1, s2, s3, s4, hs, hG, ha, hb, hc, hr, hs4, gs⟩ := simp4_spec a b c h
  rw [hs]; exact hs4
theorem alike_of_simp4 {a b c r a' b' c' r' : Int} (h : 0 < r) (h' : 0 < r') (e : simp4 a b c r = simp4 a' b' c' r') : Alike (a, b, c, r) (a', b', c', r') := by
  refine Alike.trans (simp4_pos a b c h) (simp4_alike a b c h) ?_
  rw [e]; exact (simp4_alike a' b' c' h').symm
theorem le_of_scale {G s M : Int} (hG : 0 < G) (hM : 0 ≤ M) (h1 : -M ≤ G * s) (h2 : G * s ≤ M) : -M ≤ s ∧ s ≤ M := by
  constructor
  · by_cases h : 0 ≤ s
    · omega
    · have := Int.mul_le_mul_of_nonneg_right (show 1 ≤ G by omega) (show 0 ≤ -s by omega)
      rw [Int.one_mul, Int.mul_neg] at this
      omega
  · by_cases h : s ≤ 0
    · omega
    · have := Int.mul_le_mul_of_nonneg_right (show 1 ≤ G by omega) (show 0 ≤ s by omega)
      omega
/-- The simplest form is no greater. -/
theorem simp4_le {a b c r A B C R : Int} (h : 0 < r) (hA : -A ≤ a ∧ a ≤ A) (hB : -B ≤ b ∧ b ≤ B) (hC : -C ≤ c ∧ c ≤ C) (hR : r ≤ R) :
    ∃ s1 s2 s3 s4, simp4 a b c r = (s1, s2, s3, s4) ∧ (-A ≤ s1 ∧ s1 ≤ A) ∧ (-B ≤ s2 ∧ s2 ≤ B) ∧ (-C ≤ s3 ∧ s3 ≤ C) ∧ 1 ≤ s4 ∧ s4 ≤ R := by
  obtain ⟨G, s1, s2, s3, s4, hs, hG, ha, hb, hc, hr, hs4, gs⟩ := simp4_spec a b c h
  refine ⟨s1, s2, s3, s4, hs, ?_, ?_, ?_, by omega, ?_⟩
  · rw [ha] at hA; exact le_of_scale hG (by omega) hA.1 hA.2
  · rw [hb] at hB; exact le_of_scale hG (by omega) hB.1 hB.2
  · rw [hc] at hC; exact le_of_scale hG (by omega) hC.1 hC.2
  · rw [hr] at hR h
    exact (le_of_scale hG (show 0 ≤ R by omega) (by omega) hR).2
theorem simp4_idem (a b c : Int) {r : Int} (h : 0 < r) : simp4 (simp4 a b c r).1 (simp4 a b c r).2.1 (simp4 a b c r).2.2.1 (simp4 a b c r).2.2.2 = simp4 a b c r :=
  (simp4_congr h (simp4_pos a b c h) (simp4_alike a b c h)).symm
theorem simp4_one (a b c : Int) : simp4 a b c 1 = (a, b, c, 1) := by
  have : g4 a b c 1 = 1 := by unfold g4; rw [Int.gcd_one_right, Nat.gcd_one_right]
  simp [simp4, this]

/-! What a tuple comes to as a checked interval; sums and multiples of intervals. -/
abbrev Ivb := Int × Int × Int × Int × Bool
def chk (x : Iv) : Ivb := if Ok x.1 x.2.1 x.2.2.1 x.2.2.2 then (x.1, x.2.1, x.2.2.1, x.2.2.2, true) else (0, 0, 0, 0, false)
def addL (a b c r a' b' c' r' : Int) : Ivb :=
  if Ok a b c r ∧ Ok a' b' c' r' then chk (simp4 (a * r' + a' * r) (b * r' + b' * r) (c * r' + c' * r) (r * r')) else (0, 0, 0, 0, false)
def timesL (a b c r n : Int) : Ivb :=
  if Ok a b c r ∧ (-400 ≤ n ∧ n ≤ 400) then chk (simp4 (a * n) (b * n) (c * n) r) else (0, 0, 0, 0, false)
def simpL (a b c r : Int) : Iv := if Ok a b c r then simp4 a b c r else (0, 0, 0, 0)
def invL (a b c r : Int) : Ivb := if Ok a b c r then chk (simp4 (r - a) (-b) (-c) r) else (0, 0, 0, 0, false)
theorem chk_ok {x : Iv} (h : Ok x.1 x.2.1 x.2.2.1 x.2.2.2) : chk x = (x.1, x.2.1, x.2.2.1, x.2.2.2, true) := by unfold chk; rw [if_pos h]
theorem bd_mul {x y A B : Int} (hx : -A ≤ x ∧ x ≤ A) (hy : 0 ≤ y ∧ y ≤ B) (hA : 0 ≤ A) : -(A * B) ≤ x * y ∧ x * y ≤ A * B := by
  have h1 : x * y ≤ A * y := Int.mul_le_mul_of_nonneg_right hx.2 hy.1
  have h2 : -A * y ≤ x * y := Int.mul_le_mul_of_nonneg_right hx.1 hy.1
  have h3 : A * y ≤ A * B := Int.mul_le_mul_of_nonneg_left hy.2 hA
  rw [Int.neg_mul] at h2
  omega
theorem bd_mul2 {x y A B : Int} (hx : -A ≤ x ∧ x ≤ A) (hy : -B ≤ y ∧ y ≤ B) (hA : 0 ≤ A) : -(A * B) ≤ x * y ∧ x * y ≤ A * B := by
  by_cases h : 0 ≤ y
  · exact bd_mul hx ⟨h, hy.2⟩ hA
  · have := bd_mul (x := x) (y := -y) hx ⟨by omega, by omega⟩ hA (B := B)
    rw [Int.mul_neg] at this
    omega

/-- A tuple that is alike to a valid one is, made simplest, valid. -/
theorem chk_to {a b c r A B C R : Int} (hr : 0 < r) (e : Alike (a, b, c, r) (A, B, C, R)) (h : Ok A B C R) :
    ∃ s1 s2 s3 s4, chk (simp4 a b c r) = (s1, s2, s3, s4, true) ∧ simp4 A B C R = (s1, s2, s3, s4) ∧ Ok s1 s2 s3 s4 ∧ Alike (A, B, C, R) (s1, s2, s3, s4) ∧ 0 < s4 := by
  obtain ⟨h1, h2, h3, h4⟩ := h
  have hR : 0 < R := by omega
  obtain ⟨s1, s2, s3, s4, hs, b1, b2, b3, b4, b5⟩ := simp4_le (a := A) (b := B) (c := C) (r := R) (A := 400) (B := 400) (C := 400) (R := 12) hR h2 h3 h4 (by omega)
  have ho : Ok s1 s2 s3 s4 := ⟨⟨b4, b5⟩, b1, b2, b3⟩
  refine ⟨s1, s2, s3, s4, ?_, hs, ho, by rw [← hs]; exact simp4_alike A B C hR, by omega⟩
  rw [simp4_congr hr hR e, hs]
  exact chk_ok ho
theorem addL_eq {a b c r a' b' c' r' : Int} (h : Ok a b c r) (h' : Ok a' b' c' r') : addL a b c r a' b' c' r' = chk (simp4 (a * r' + a' * r) (b * r' + b' * r) (c * r' + c' * r) (r * r')) := by unfold addL; rw [if_pos ⟨h, h'⟩]
theorem timesL_eq {a b c r n : Int} (h : Ok a b c r) (h' : -400 ≤ n ∧ n ≤ 400) : timesL a b c r n = chk (simp4 (a * n) (b * n) (c * n) r) := by unfold timesL; rw [if_pos ⟨h, h'⟩]
theorem Ok.pos {a b c r : Int} (h : Ok a b c r) : 0 < r := by have := h.1; omega

theorem chk_inv {x : Iv} {s1 s2 s3 s4 : Int} (h : chk x = (s1, s2, s3, s4, true)) : x = (s1, s2, s3, s4) ∧ Ok s1 s2 s3 s4 := by
  obtain ⟨a, b, c, r⟩ := x
  unfold chk at h
  simp only at h
  split at h
  · rename_i ho
    simp only [Prod.mk.injEq, and_true] at h
    obtain ⟨rfl, rfl, rfl, rfl⟩ := h
    exact ⟨rfl, ho⟩
  · simp at h
theorem addL_inv {a b c r a' b' c' r' s1 s2 s3 s4 : Int} (h : addL a b c r a' b' c' r' = (s1, s2, s3, s4, true)) :
    Ok a b c r ∧ Ok a' b' c' r' ∧ Ok s1 s2 s3 s4 ∧ simp4 (a * r' + a' * r) (b * r' + b' * r) (c * r' + c' * r) (r * r') = (s1, s2, s3, s4) ∧ Alike (a * r' + a' * r, b * r' + b' * r, c * r' + c' * r, r * r') (s1, s2, s3, s4) := by
  unfold addL at h
  split at h
  · rename_i ho
    obtain ⟨e, ok⟩ := chk_inv h
    refine ⟨ho.1, ho.2, ok, e, ?_⟩
    rw [← e]; exact simp4_alike _ _ _ (Int.mul_pos ho.1.pos ho.2.pos)
  · simp at h
theorem addL_comm (a b c r a' b' c' r' : Int) : addL a b c r a' b' c' r' = addL a' b' c' r' a b c r := by
  unfold addL
  rw [Int.add_comm (a * r'), Int.add_comm (b * r'), Int.add_comm (c * r'), Int.mul_comm r r']
  by_cases h : Ok a b c r ∧ Ok a' b' c' r'
  · rw [if_pos h, if_pos h.symm]
  · rw [if_neg h, if_neg (fun q => h q.symm)]
theorem assoc_key {a a' a'' r r' r'' x1 x4 u1 u4 : Int} (hr' : r' ≠ 0) (h1 : (a * r' + a' * r) * x4 = x1 * (r * r')) (h2 : (a' * r'' + a'' * r') * u4 = u1 * (r' * r'')) : (x1 * r'' + a'' * x4) * (r * u4) = (a * u4 + u1 * r) * (x4 * r'') := by
  apply Int.eq_of_mul_eq_mul_left hr'
  grind
/-- Sums are associative, where all are valid. -/
theorem addL_assoc {a b c r a' b' c' r' a'' b'' c'' r'' x1 x2 x3 x4 u1 u2 u3 u4 v1 v2 v3 v4 w1 w2 w3 w4 : Int} (hx : addL a b c r a' b' c' r' = (x1, x2, x3, x4, true)) (hu : addL a' b' c' r' a'' b'' c'' r'' = (u1, u2, u3, u4, true))
    (hv : addL x1 x2 x3 x4 a'' b'' c'' r'' = (v1, v2, v3, v4, true)) (hw : addL a b c r u1 u2 u3 u4 = (w1, w2, w3, w4, true)) : (v1, v2, v3, v4) = (w1, w2, w3, w4) := by
  obtain ⟨o1, o2, ox, ex, ⟨p1, p2, p3⟩⟩ := addL_inv hx
  obtain ⟨_, o3, ou, eu, ⟨q1, q2, q3⟩⟩ := addL_inv hu
  obtain ⟨_, _, ov, ev, _⟩ := addL_inv hv
  obtain ⟨_, _, ow, ew, _⟩ := addL_inv hw
  rw [← ev, ← ew]
  have hr' : r' ≠ 0 := by have := o2.pos; omega
  simp only at p1 p2 p3 q1 q2 q3
  exact simp4_congr (Int.mul_pos ox.pos o3.pos) (Int.mul_pos o1.pos ou.pos) ⟨assoc_key hr' p1 q1, assoc_key hr' p2 q2, assoc_key hr' p3 q3⟩

/-! Euclid. -/
theorem gcd_step (a b : Int) : Int.gcd b (a.tmod b) = Int.gcd a b := by
  simp only [Int.gcd, Int.natAbs_tmod]
  rw [Nat.gcd_comm b.natAbs, ← Nat.gcd_rec, Nat.gcd_comm]
theorem tmod_bd (a b : Int) : (a.tmod b).natAbs ≤ a.natAbs := by rw [Int.natAbs_tmod]; exact Nat.mod_le _ _
theorem tmod_lt (a b : Int) (h : b ≠ 0) : (a.tmod b).natAbs < b.natAbs := by rw [Int.natAbs_tmod]; exact Nat.mod_lt _ (by omega)
theorem tdiv_bd (x g : Int) (h : x.natAbs ≤ 1000000000) : -9223372036854775808 ≤ x.tdiv g ∧ x.tdiv g ≤ 9223372036854775807 := by
  have : (x.tdiv g).natAbs ≤ x.natAbs := by rw [Int.natAbs_tdiv]; exact Nat.div_le_self _ _
  omega
theorem gcd_bd {a b : Int} (ha : a.natAbs ≤ 1000000000) (hb : b.natAbs ≤ 1000000000) : (((Int.gcd a b : Nat) : Int)).natAbs ≤ 1000000000 := by
  rw [Int.natAbs_natCast]
  unfold Int.gcd
  rcases Nat.eq_zero_or_pos a.natAbs with h | h
  · rw [h, Nat.gcd_zero_left]; exact hb
  · exact Nat.le_trans (Nat.gcd_le_left _ h) ha
theorem tdiv_dvd {a g : Int} (h : g ∣ a) : a.tdiv g = a / g := Int.tdiv_eq_ediv_of_dvd h
end Go.Proofs.Ytfimodphnfejdaa.My
