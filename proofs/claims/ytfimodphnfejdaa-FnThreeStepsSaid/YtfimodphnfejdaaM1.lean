import Derived.Test.YtfimodphnfejdaaM0
namespace Go.Proofs.Ytfimodphnfejdaa.My
open Go Go.RowKit Go.Proofs.YtfimodphnfejdaaW.PrintWords Go.Proofs.YtfimodphnfejdaaW.PrintLast Go.Proofs.YtfimodphnfejdaaW.PrintMore

/-! Large numbers as rows of groups, the lowest first. -/
def val : List Int → Int
  | [] => 0
  | x :: l => x + 10000 * val l
def Dig (l : List Int) : Prop := ∀ x ∈ l, 0 ≤ x ∧ x ≤ 9999
instance (l : List Int) : Decidable (Dig l) := by unfold Dig; infer_instance
def Top (l : List Int) : Prop := l.getLast? ≠ some 0
instance (l : List Int) : Decidable (Top l) := by unfold Top; infer_instance
def Canon (l : List Int) : Prop := Dig l ∧ Top l
def B (n : Nat) : Int := 10000 ^ n
theorem B_zero : B 0 = 1 := rfl
theorem B_succ (n : Nat) : B (n + 1) = 10000 * B n := by unfold B; rw [Int.pow_succ, Int.mul_comm]
theorem B_pos (n : Nat) : 0 < B n := by
  induction n with
  | zero => decide
  | succ n ih => rw [B_succ]; omega
theorem B_le {m n : Nat} (h : m ≤ n) : B m ≤ B n := by
  induction n with
  | zero => rw [show m = 0 from by omega]; exact Int.le_refl _
  | succ n ih =>
    rcases Nat.lt_or_ge m (n + 1) with h1 | h1
    · have := ih (by omega); have := B_pos n; rw [B_succ]; omega
    · rw [show m = n + 1 from by omega]; exact Int.le_refl _
theorem val_append (a b : List Int) : val (a ++ b) = val a + B a.length * val b := by
  induction a with
  | nil => simp [val, B_zero]
  | cons x a ih =>
    simp only [List.cons_append, val, ih, List.length_cons, B_succ]
    rw [Int.mul_add, Int.mul_assoc, Int.add_assoc]
theorem val_snoc (a : List Int) (x : Int) : val (a ++ [x]) = val a + B a.length * x := by
  rw [val_append]; simp [val]
theorem Dig_nil : Dig [] := by simp [Dig]
theorem Dig_cons {x : Int} {l : List Int} : Dig (x :: l) ↔ (0 ≤ x ∧ x ≤ 9999) ∧ Dig l := by simp [Dig]
theorem Dig_append {a b : List Int} : Dig (a ++ b) ↔ Dig a ∧ Dig b := by
  simp only [Dig, List.mem_append]
  exact ⟨fun h => ⟨fun x hx => h x (.inl hx), fun x hx => h x (.inr hx)⟩, fun h x hx => hx.elim (h.1 x) (h.2 x)⟩
theorem Dig_take {l : List Int} (h : Dig l) (n : Nat) : Dig (l.take n) := fun x hx => h x (List.mem_of_mem_take hx)
theorem Dig_drop {l : List Int} (h : Dig l) (n : Nat) : Dig (l.drop n) := fun x hx => h x (List.mem_of_mem_drop hx)
theorem val_bd {l : List Int} (h : Dig l) : 0 ≤ val l ∧ val l < B l.length := by
  induction l with
  | nil => simp [val, B_zero]
  | cons x l ih =>
    obtain ⟨hx, hl⟩ := Dig_cons.1 h
    have := ih hl
    simp only [val, List.length_cons, B_succ]
    omega
theorem Top_nil : Top [] := by simp [Top]
theorem Top_tail {x : Int} {l : List Int} (h : Top (x :: l)) : Top l := by
  cases l with
  | nil => exact Top_nil
  | cons y l => simpa [Top, List.getLast?_cons_cons] using h
theorem Canon_tail {x : Int} {l : List Int} (h : Canon (x :: l)) : Canon l := ⟨(Dig_cons.1 h.1).2, Top_tail h.2⟩
/-- A row of groups whose highest is not 0 is at least a power of the base, and the other way about. -/
theorem Top_iff {l : List Int} (h : Dig l) (hne : l ≠ []) : Top l ↔ B (l.length - 1) ≤ val l := by
  obtain ⟨a, x, rfl⟩ : ∃ a x, l = a ++ [x] := ⟨l.dropLast, l.getLast hne, (List.dropLast_concat_getLast hne).symm⟩
  obtain ⟨ha, hx⟩ := Dig_append.1 h
  have hx := (Dig_cons.1 hx).1
  have hb := val_bd ha
  have hp := B_pos a.length
  rw [val_snoc]
  simp only [Top, List.getLast?_append, List.getLast?_singleton, Option.some_or, List.length_append, List.length_singleton, Nat.add_sub_cancel, ne_eq, Option.some.injEq]
  constructor
  · intro h0
    have := Int.mul_le_mul_of_nonneg_left (show 1 ≤ x by omega) (Int.le_of_lt hp)
    omega
  · intro h1 h0
    rw [h0, Int.mul_zero] at h1
    omega
theorem Canon_pos {l : List Int} (h : Canon l) (hne : l ≠ []) : 0 < val l :=
  Int.lt_of_lt_of_le (B_pos _) ((Top_iff h.1 hne).1 h.2)
theorem Canon_inj {a b : List Int} (ha : Canon a) (hb : Canon b) (h : val a = val b) : a = b := by
  induction a generalizing b with
  | nil =>
    cases b with
    | nil => rfl
    | cons y b =>
      have := Canon_pos hb (by simp)
      rw [← h] at this
      simp [val] at this
  | cons x a ih =>
    cases b with
    | nil =>
      have := Canon_pos ha (by simp)
      rw [h] at this
      simp [val] at this
    | cons y b =>
      have hx := (Dig_cons.1 ha.1).1
      have hy := (Dig_cons.1 hb.1).1
      simp only [val] at h
      have hxy : x = y := by omega
      have hv : val a = val b := by omega
      rw [hxy, ih (Canon_tail ha) (Canon_tail hb) hv]

/-! The order. -/
def cmpI (x y : Int) : Int := if x < y then -1 else if y < x then 1 else 0
theorem cmpI_lt {x y : Int} (h : x < y) : cmpI x y = -1 := by unfold cmpI; rw [if_pos h]
theorem cmpI_gt {x y : Int} (h : y < x) : cmpI x y = 1 := by unfold cmpI; rw [if_neg (by omega), if_pos h]
theorem cmpI_self (x : Int) : cmpI x x = 0 := by unfold cmpI; rw [if_neg (by omega), if_neg (by omega)]
theorem Canon_len_lt {a b : List Int} (ha : Canon a) (hb : Canon b) (h : a.length < b.length) : val a < val b := by
  have h1 := (val_bd ha.1).2
  have hne : b ≠ [] := by intro e; rw [e] at h; simp at h
  have h2 := (Top_iff hb.1 hne).1 hb.2
  have h3 := B_le (show a.length ≤ b.length - 1 by omega)
  omega
/-- Where the higher groups are the same, the next decides. -/
theorem val_at {a b : List Int} (ha : Dig a) (hb : Dig b) (k : Nat) (hka : k < a.length) (hkb : k < b.length) (ht : a.drop (k + 1) = b.drop (k + 1)) (h : rd a (k : Int) < rd b (k : Int)) : val a < val b := by
  have e1 : a = a.take k ++ (rd a (k : Int) :: a.drop (k + 1)) := by rw [← drop_cons a k hka, List.take_append_drop]
  have e2 : b = b.take k ++ (rd b (k : Int) :: b.drop (k + 1)) := by rw [← drop_cons b k hkb, List.take_append_drop]
  have h1 := (val_bd (Dig_take ha k)).2
  have h2 := (val_bd (Dig_take hb k)).1
  rw [e1, e2, val_append, val_append, ht]
  simp only [val]
  rw [List.length_take, List.length_take, Nat.min_eq_left (by omega), Nat.min_eq_left (by omega)] at *
  have hp := B_pos k
  have h3 := Int.mul_le_mul_of_nonneg_left (show rd a (k : Int) + 10000 * val (b.drop (k + 1)) + 1 ≤ rd b (k : Int) + 10000 * val (b.drop (k + 1)) by omega) (Int.le_of_lt hp)
  rw [Int.mul_add, Int.mul_one] at h3
  omega

/-! The product with a small number, group by group: what is left after i groups. -/
theorem mul_step {v P c n g x d : Int} (h : v + P * c = n * x) (hd : d = g * n + c) : (v + P * (d % 10000)) + (10000 * P) * (d / 10000) = n * (x + P * g) := by
  have e : d % 10000 + 10000 * (d / 10000) = d := Int.emod_add_mul_ediv d 10000
  have : P * (d % 10000) + (10000 * P) * (d / 10000) = P * d := by
    rw [Int.mul_comm 10000 P, Int.mul_assoc, ← Int.mul_add, e]
  rw [Int.add_assoc, this, hd, Int.mul_add, Int.mul_add, ← h]
  have : P * (g * n) = n * (P * g) := by rw [Int.mul_comm g n, ← Int.mul_assoc, ← Int.mul_assoc, Int.mul_comm P n]
  omega
theorem carry_bd {g n c : Int} (hg : 0 ≤ g ∧ g ≤ 9999) (hn : 0 ≤ n) (hc : 0 ≤ c ∧ c ≤ n) : 0 ≤ g * n + c ∧ g * n + c ≤ 10000 * n ∧ 0 ≤ (g * n + c) / 10000 ∧ (g * n + c) / 10000 ≤ n := by
  have h1 : 0 ≤ g * n := Int.mul_nonneg hg.1 hn
  have h2 : g * n ≤ 9999 * n := Int.mul_le_mul_of_nonneg_right hg.2 hn
  omega
theorem dm_nonneg {x : Int} (h : 0 ≤ x) : Int.tmod x 10000 = x % 10000 ∧ Int.tdiv x 10000 = x / 10000 := ⟨Int.tmod_eq_emod_of_nonneg h, Int.tdiv_eq_ediv_of_nonneg h⟩
theorem B_two (n : Nat) : (2 : Int) ^ n ≤ B n := by
  induction n with
  | zero => exact Int.le_refl _
  | succ n ih =>
    have := B_pos n
    rw [B_succ, Int.pow_succ]; omega
theorem two_mono {m n : Nat} (h : (2 : Int) ^ m < 2 ^ n) : m < n := by
  have h' : (2 : Nat) ^ m < 2 ^ n := by exact_mod_cast h
  exact (Nat.pow_lt_pow_iff_right (by omega)).1 h'
/-- No more groups than the value has binary digits. -/
theorem Canon_len {l : List Int} (h : Canon l) {n : Nat} (hv : val l < 2 ^ n) : l.length ≤ n := by
  by_cases hne : l = []
  · simp [hne]
  · have h1 := (Top_iff h.1 hne).1 h.2
    have h2 := B_two (l.length - 1)
    have := two_mono (Int.lt_of_le_of_lt (Int.le_trans h2 h1) hv)
    omega
theorem Top_last {l : List Int} (h : 0 < l.length) (hl : rd l ((l.length : Int) - 1) ≠ 0) : Top l := by
  have hne : l ≠ [] := List.length_pos_iff.1 h
  rw [rd_last l hne] at hl
  unfold Top
  rw [List.getLast?_eq_some_getLast hne]
  simpa using hl
theorem Canon_one : Canon [1] := ⟨by decide, by decide⟩
theorem Dig_snoc {l : List Int} {x : Int} (h : Dig l) (hx : 0 ≤ x ∧ x ≤ 9999) : Dig (l ++ [x]) := Dig_append.2 ⟨h, by simpa [Dig] using hx⟩
theorem mod_dig (x : Int) : 0 ≤ x % 10000 ∧ x % 10000 ≤ 9999 := ⟨Int.emod_nonneg _ (by omega), by have := Int.emod_lt_of_pos x (show (0 : Int) < 10000 by omega); omega⟩
theorem take_len_succ {l : List Int} {m : Nat} (h : l.length = m + 1) : l = l.take m ++ [rd l (m : Int)] := by
  rw [← take_snoc l m (by omega), ← h, List.take_length]
end Go.Proofs.Ytfimodphnfejdaa.My
