import Derived.Test.YtfimodphnfejdaaM1
namespace Go.Proofs.Ytfimodphnfejdaa.My
open Go Go.RowKit Go.Proofs.YtfimodphnfejdaaW.PrintWords Go.Proofs.YtfimodphnfejdaaW.PrintLast Go.Proofs.YtfimodphnfejdaaW.PrintMore

/-! The sign of a product of powers of 2, 3 and 5. -/
def num (a b c : Int) : Nat := 2 ^ a.toNat * 3 ^ b.toNat * 5 ^ c.toNat
def sg (a b c : Int) : Int := cmpI (num a b c : Nat) (num (-a) (-b) (-c) : Nat)
theorem num_pos (a b c : Int) : 0 < num a b c :=
  Nat.mul_pos (Nat.mul_pos (Nat.pow_pos (by omega)) (Nat.pow_pos (by omega))) (Nat.pow_pos (by omega))
theorem sg_vals (a b c : Int) : sg a b c = -1 ∨ sg a b c = 0 ∨ sg a b c = 1 := by
  unfold sg cmpI; split
  · exact .inl rfl
  · split
    · exact .inr (.inr rfl)
    · exact .inr (.inl rfl)
theorem sg_nonneg {a b c : Int} : 0 ≤ sg a b c ↔ num (-a) (-b) (-c) ≤ num a b c := by
  unfold sg cmpI; split
  · constructor
    · intro h; omega
    · intro h; omega
  · split <;> constructor <;> intro h <;> omega
theorem sg_pos {a b c : Int} : 0 < sg a b c ↔ num (-a) (-b) (-c) < num a b c := by
  unfold sg cmpI; split
  · constructor
    · intro h; omega
    · intro h; omega
  · split <;> constructor <;> intro h <;> omega
theorem cmpI_neg (x y : Int) : cmpI y x = -cmpI x y := by
  unfold cmpI
  by_cases h1 : x < y
  · rw [if_neg (by omega), if_pos h1, if_pos h1]; rfl
  · by_cases h2 : y < x
    · rw [if_pos h2, if_neg h1, if_pos h2]
    · rw [if_neg h2, if_neg h1, if_neg h1, if_neg h2]; rfl
theorem sg_neg (a b c : Int) : sg (-a) (-b) (-c) = -sg a b c := by
  unfold sg; rw [Int.neg_neg, Int.neg_neg, Int.neg_neg, cmpI_neg]
theorem pow_cross (p : Nat) (x y : Int) : p ^ (x + y).toNat * (p ^ (-x).toNat * p ^ (-y).toNat) = p ^ (-(x + y)).toNat * (p ^ x.toNat * p ^ y.toNat) := by
  rw [← Nat.pow_add, ← Nat.pow_add, ← Nat.pow_add, ← Nat.pow_add]
  congr 1; omega
theorem num_cross (a b c a' b' c' : Int) : num (a + a') (b + b') (c + c') * (num (-a) (-b) (-c) * num (-a') (-b') (-c')) = num (-(a + a')) (-(b + b')) (-(c + c')) * (num a b c * num a' b' c') := by
  have h2 := pow_cross 2 a a'
  have h3 := pow_cross 3 b b'
  have h5 := pow_cross 5 c c'
  unfold num
  calc _ = (2 ^ (a + a').toNat * (2 ^ (-a).toNat * 2 ^ (-a').toNat)) * (3 ^ (b + b').toNat * (3 ^ (-b).toNat * 3 ^ (-b').toNat)) * (5 ^ (c + c').toNat * (5 ^ (-c).toNat * 5 ^ (-c').toNat)) := by ac_rfl
    _ = _ := by rw [h2, h3, h5]; ac_rfl
theorem sg_add_nonneg {a b c a' b' c' : Int} (h : 0 ≤ sg a b c) (h' : 0 ≤ sg a' b' c') : 0 ≤ sg (a + a') (b + b') (c + c') := by
  rw [sg_nonneg] at *
  have e := num_cross a b c a' b' c'
  have hp : 0 < num (-a) (-b) (-c) * num (-a') (-b') (-c') := Nat.mul_pos (num_pos ..) (num_pos ..)
  have hm := Nat.mul_le_mul h h'
  have := Nat.mul_le_mul_left (num (-(a + a')) (-(b + b')) (-(c + c'))) hm
  rw [← e] at this
  exact Nat.le_of_mul_le_mul_right this hp
theorem sg_add_pos {a b c a' b' c' : Int} (h : 0 < sg a b c) (h' : 0 ≤ sg a' b' c') : 0 < sg (a + a') (b + b') (c + c') := by
  rw [sg_nonneg] at h'
  rw [sg_pos] at *
  have e := num_cross a b c a' b' c'
  have hm : num (-a) (-b) (-c) * num (-a') (-b') (-c') < num a b c * num a' b' c' :=
    Nat.lt_of_lt_of_le (Nat.mul_lt_mul_of_pos_right h (num_pos ..)) (Nat.mul_le_mul_left _ h')
  have := Nat.mul_lt_mul_of_pos_left hm (num_pos (-(a + a')) (-(b + b')) (-(c + c')))
  rw [← e] at this
  exact Nat.lt_of_mul_lt_mul_right this
theorem toNat_mul (k : Nat) (x : Int) : ((k : Int) * x).toNat = k * x.toNat := by
  rcases Int.le_total 0 x with h | h
  · obtain ⟨n, rfl⟩ := Int.eq_ofNat_of_zero_le h
    rw [← Int.natCast_mul]; rfl
  · have h1 : (k : Int) * x ≤ 0 := by
      have := Int.mul_le_mul_of_nonneg_left h (Int.natCast_nonneg k); simpa using this
    rw [Int.toNat_of_nonpos h1, Int.toNat_of_nonpos h, Nat.mul_zero]
theorem num_mul (k : Nat) (a b c : Int) : num (k * a) (k * b) (k * c) = num a b c ^ k := by
  unfold num
  rw [toNat_mul, toNat_mul, toNat_mul, Nat.mul_pow, Nat.mul_pow, ← Nat.pow_mul, ← Nat.pow_mul, ← Nat.pow_mul, Nat.mul_comm k, Nat.mul_comm k, Nat.mul_comm k]
theorem sg_mul {k : Int} (hk : 0 < k) (a b c : Int) : sg (k * a) (k * b) (k * c) = sg a b c := by
  obtain ⟨n, rfl⟩ := Int.eq_ofNat_of_zero_le (Int.le_of_lt hk)
  have hn : n ≠ 0 := by omega
  have e1 := num_mul n a b c
  have e2 := num_mul n (-a) (-b) (-c)
  simp only [Int.mul_neg] at e2
  unfold sg
  rw [e1, e2]
  generalize num a b c = x
  generalize num (-a) (-b) (-c) = y
  rcases Nat.lt_trichotomy x y with h | h | h
  · rw [cmpI_lt (by exact_mod_cast Nat.pow_lt_pow_left h hn), cmpI_lt (by omega)]
  · rw [h, cmpI_self, cmpI_self]
  · rw [cmpI_gt (by exact_mod_cast Nat.pow_lt_pow_left h hn), cmpI_gt (by omega)]
theorem num_zero : num 0 0 0 = 1 := rfl
theorem sg_zero : sg 0 0 0 = 0 := rfl
theorem cop_pow {p q : Nat} (h : Nat.Coprime p q) (m n : Nat) : Nat.Coprime (p ^ m) (q ^ n) := Nat.Coprime.pow m n h
theorem pow_one_of_dvd {p : Nat} (hp : 1 < p) {n : Nat} (h : p ^ n = 1) : n = 0 := by
  cases n with
  | zero => rfl
  | succ n =>
    have := Nat.pow_lt_pow_right hp (Nat.succ_pos n)
    rw [h, Nat.pow_zero] at this; omega
/-- A power on one side that is coprime to the other side is no power. -/
theorem one_side {p x y : Nat} (hp : 1 < p) (n : Nat) (h : p ^ n * x = y) (hc : Nat.Coprime p y) : n = 0 := by
  have h1 : Nat.Coprime (p ^ n) y := Nat.Coprime.pow_left n hc
  have h2 : p ^ n ∣ y := ⟨x, h.symm⟩
  exact pow_one_of_dvd hp (Nat.Coprime.eq_one_of_dvd h1 h2)
theorem cop3 {p a b c : Nat} (h1 : Nat.Coprime p a) (h2 : Nat.Coprime p b) (h3 : Nat.Coprime p c) : Nat.Coprime p (a * b * c) :=
  Nat.Coprime.mul_right (Nat.Coprime.mul_right h1 h2) h3
theorem num_inj {a b c : Int} (h : num a b c = num (-a) (-b) (-c)) : a = 0 ∧ b = 0 ∧ c = 0 := by
  have c23 : Nat.Coprime 2 3 := by decide
  have c25 : Nat.Coprime 2 5 := by decide
  have c35 : Nat.Coprime 3 5 := by decide
  unfold num at h
  refine ⟨?_, ?_, ?_⟩
  · rcases Int.le_total 0 a with ha | ha
    · have e : (-a).toNat = 0 := by omega
      rw [e, Nat.pow_zero] at h
      have := one_side (p := 2) (by omega) a.toNat (x := 3 ^ b.toNat * 5 ^ c.toNat) (by rw [← h, Nat.mul_assoc]) (cop3 (Nat.coprime_one_right 2) (Nat.Coprime.pow_right _ c23) (Nat.Coprime.pow_right _ c25))
      omega
    · have e : a.toNat = 0 := by omega
      rw [e, Nat.pow_zero] at h
      have := one_side (p := 2) (by omega) (-a).toNat (x := 3 ^ (-b).toNat * 5 ^ (-c).toNat) (by rw [h, Nat.mul_assoc]) (cop3 (Nat.coprime_one_right 2) (Nat.Coprime.pow_right _ c23) (Nat.Coprime.pow_right _ c25))
      omega
  · rcases Int.le_total 0 b with ha | ha
    · have e : (-b).toNat = 0 := by omega
      rw [e, Nat.pow_zero] at h
      have := one_side (p := 3) (by omega) b.toNat (x := 2 ^ a.toNat * 5 ^ c.toNat) (by rw [← h]; ac_rfl) (cop3 (Nat.Coprime.pow_right _ c23.symm) (Nat.coprime_one_right 3) (Nat.Coprime.pow_right _ c35))
      omega
    · have e : b.toNat = 0 := by omega
      rw [e, Nat.pow_zero] at h
      have := one_side (p := 3) (by omega) (-b).toNat (x := 2 ^ (-a).toNat * 5 ^ (-c).toNat) (by rw [h]; ac_rfl) (cop3 (Nat.Coprime.pow_right _ c23.symm) (Nat.coprime_one_right 3) (Nat.Coprime.pow_right _ c35))
      omega
  · rcases Int.le_total 0 c with ha | ha
    · have e : (-c).toNat = 0 := by omega
      rw [e, Nat.pow_zero] at h
      have := one_side (p := 5) (by omega) c.toNat (x := 2 ^ a.toNat * 3 ^ b.toNat) (by rw [← h]; ac_rfl) (cop3 (Nat.Coprime.pow_right _ c25.symm) (Nat.Coprime.pow_right _ c35.symm) (Nat.coprime_one_right 5))
      omega
    · have e : c.toNat = 0 := by omega
      rw [e, Nat.pow_zero] at h
      have := one_side (p := 5) (by omega) (-c).toNat (x := 2 ^ (-a).toNat * 3 ^ (-b).toNat) (by rw [h]; ac_rfl) (cop3 (Nat.Coprime.pow_right _ c25.symm) (Nat.Coprime.pow_right _ c35.symm) (Nat.coprime_one_right 5))
      omega
theorem sg_eq_zero {a b c : Int} : sg a b c = 0 ↔ a = 0 ∧ b = 0 ∧ c = 0 := by
  constructor
  · intro h
    refine num_inj ?_
    have h1 := (sg_nonneg (a := a) (b := b) (c := c)).1 (by omega)
    have h2 : ¬ num (-a) (-b) (-c) < num a b c := fun q => by have := sg_pos.2 q; omega
    omega
  · rintro ⟨rfl, rfl, rfl⟩; rfl

/-! How many octaves. -/
theorem sg_two_nonneg {a : Int} (h : 0 ≤ a) : 0 ≤ sg a 0 0 := by
  rw [sg_nonneg]
  show num (-a) 0 0 ≤ num a 0 0
  unfold num
  rw [show (-a).toNat = 0 from by omega]
  have : 0 < 2 ^ a.toNat := Nat.pow_pos (by omega)
  simp; omega
theorem sg_two_pos {a : Int} (h : 0 < a) : 0 < sg a 0 0 := by
  have := sg_two_nonneg (Int.le_of_lt h)
  have : sg a 0 0 ≠ 0 := fun e => by have := (sg_eq_zero.1 e).1; omega
  omega
theorem sg_mono {a a' b c : Int} (h : a ≤ a') (h' : 0 ≤ sg a b c) : 0 ≤ sg a' b c := by
  have := sg_add_nonneg h' (sg_two_nonneg (show 0 ≤ a' - a by omega))
  simpa [show a + (a' - a) = a' from by omega] using this
theorem sg_high {a b c B C : Int} (hb : -B ≤ b) (hc : -C ≤ c) (hB : 0 ≤ B) (hC : 0 ≤ C) (h : 2 * B + 3 * C ≤ a) : 0 ≤ sg a b c := by
  rw [sg_nonneg]
  unfold num
  rw [show (-a).toNat = 0 from by omega, Nat.pow_zero, Nat.one_mul]
  have e3 : 3 ^ (-b).toNat ≤ 2 ^ (2 * (-b).toNat) := by rw [Nat.pow_mul]; exact Nat.pow_le_pow_left (by omega) _
  have e5 : 5 ^ (-c).toNat ≤ 2 ^ (3 * (-c).toNat) := by rw [Nat.pow_mul]; exact Nat.pow_le_pow_left (by omega) _
  have h1 := Nat.mul_le_mul e3 e5
  rw [← Nat.pow_add] at h1
  have h2 : 2 ^ (2 * (-b).toNat + 3 * (-c).toNat) ≤ 2 ^ a.toNat := Nat.pow_le_pow_right (by omega) (by omega)
  have p3 : 0 < 3 ^ b.toNat := Nat.pow_pos (by omega)
  have p5 : 0 < 5 ^ c.toNat := Nat.pow_pos (by omega)
  have h3 : 2 ^ a.toNat ≤ 2 ^ a.toNat * 3 ^ b.toNat := Nat.le_mul_of_pos_right _ p3
  have h4 : 2 ^ a.toNat * 3 ^ b.toNat ≤ 2 ^ a.toNat * 3 ^ b.toNat * 5 ^ c.toNat := Nat.le_mul_of_pos_right _ p5
  omega
theorem sg_low {a b c B C : Int} (hb : b ≤ B) (hc : c ≤ C) (hB : 0 ≤ B) (hC : 0 ≤ C) (h : a < -(2 * B + 3 * C)) : sg a b c < 0 := by
  have h1 := sg_high (a := -a - 1) (b := -b) (c := -c) (B := B) (C := C) (by omega) (by omega) hB hC (by omega)
  have h2 := sg_add_pos (sg_two_pos (show (0 : Int) < 1 by omega)) h1
  rw [show (1 : Int) + (-a - 1) = -a from by omega, Int.zero_add, Int.zero_add, sg_neg] at h2
  omega
/-- n octaves fit, and no more. -/
def Oct (a b c r n : Int) : Prop := 0 ≤ sg (a - n * r) b c ∧ sg (a - (n + 1) * r) b c < 0
theorem Oct_uniq {a b c r n m : Int} (hr : 0 < r) (h : Oct a b c r n) (k : Oct a b c r m) : n = m := by
  have key : ∀ {n m : Int}, Oct a b c r n → Oct a b c r m → ¬ n < m := by
    intro n m h k hlt
    have h1 : a - m * r ≤ a - (n + 1) * r := by
      have := Int.mul_le_mul_of_nonneg_right (show n + 1 ≤ m by omega) (Int.le_of_lt hr)
      omega
    have := sg_mono h1 k.1
    have := h.2
    omega
  have := key h k
  have := key k h
  omega
end Go.Proofs.Ytfimodphnfejdaa.My
