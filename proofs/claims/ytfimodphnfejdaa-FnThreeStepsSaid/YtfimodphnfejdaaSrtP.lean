/- Plain facts on sort.SliceStable's merging of two sorted parts in place (swapRange, rotate, symMerge): arrays and a strict weak order, no program. -/
import Derived.Sort.LotA
namespace Go.Proofs.Ytfimodphnfejdaa.Srt
open Go.Sort
set_option linter.unusedVariables false
section
variable {α : Type} [Inhabited α]

theorem swp_get' (d : Array α) {i j : Nat} (hi : i < d.size) (hj : j < d.size) (k : Nat) : (swp d i j)[k]! = if k = j then d[i]! else if k = i then d[j]! else d[k]! := by
  have := swp_get d hi hj k
  rw [this]

/-- n swaps of a, a + 1, .. with b, b + 1, ... -/
def sr (d : Array α) (a b : Nat) : Nat → Array α
  | 0 => d
  | n + 1 => swp (sr d a b n) (a + n) (b + n)
theorem size_sr (d : Array α) (a b : Nat) : ∀ n, (sr d a b n).size = d.size
  | 0 => rfl
  | n + 1 => by rw [sr, size_swp, size_sr d a b n]
theorem sr_get (d : Array α) (a b : Nat) : ∀ (n : Nat), a + n ≤ b → b + n ≤ d.size → ∀ t, (sr d a b n)[t]! = if a ≤ t ∧ t < a + n then d[t + (b - a)]! else if b ≤ t ∧ t < b + n then d[t - (b - a)]! else d[t]!
  | 0, _, _, t => by rw [sr, if_neg (by omega), if_neg (by omega)]
  | n + 1, h1, h2, t => by
    have ih := sr_get d a b n (by omega) (by omega)
    rw [sr, swp_get' _ (by rw [size_sr]; omega) (by rw [size_sr]; omega), ih, ih, ih]
    by_cases c1 : t = b + n
    · subst c1
      rw [if_pos rfl, if_neg (by omega), if_neg (by omega), if_neg (by omega), if_pos (by omega)]
      congr 1; omega
    · rw [if_neg c1]
      by_cases c2 : t = a + n
      · subst c2
        rw [if_pos rfl, if_neg (by omega), if_neg (by omega), if_pos (by omega)]
        congr 1; omega
      · rw [if_neg c2]
        by_cases c3 : a ≤ t ∧ t < a + n
        · rw [if_pos c3, if_pos (by omega)]
        · rw [if_neg c3, if_neg (c := a ≤ t ∧ t < a + (n + 1)) (by omega)]
          by_cases c4 : b ≤ t ∧ t < b + n
          · rw [if_pos c4, if_pos (by omega)]
          · rw [if_neg c4, if_neg (by omega)]
theorem sr_perm (d : Array α) (a b lo hi : Nat) (hlo : lo ≤ a) (hhi : hi ≤ d.size) : ∀ n, a + n ≤ b → b + n ≤ hi → PermIn lo hi d (sr d a b n)
  | 0, _, _ => permIn_refl _ _ _
  | n + 1, h1, h2 => permIn_trans _ _ _ _ _ (sr_perm d a b lo hi hlo hhi n (by omega) (by omega)) (swp_permIn _ _ _ _ _ (by omega) (by omega) (by omega) (by omega) (by rw [size_sr]; exact hhi))

/-- The parts [a, m) and [m, b) changed for one another. -/
def Rot (d d' : Array α) (a m b : Nat) : Prop :=
  PermIn a b d d' ∧ (∀ t, a ≤ t → t < a + (b - m) → d'[t]! = d[t + (m - a)]!) ∧ (∀ t, a + (b - m) ≤ t → t < b → d'[t]! = d[t - (b - m)]!)
theorem rot_left (d : Array α) (a m : Nat) (h : a ≤ m) : Rot d d a m m := ⟨permIn_refl _ _ _, fun t h1 h2 => by omega, fun t h1 h2 => by rw [Nat.sub_self, Nat.sub_zero]⟩
theorem rot_right (d : Array α) (m b : Nat) (h : m ≤ b) : Rot d d m m b := ⟨permIn_refl _ _ _, fun t h1 h2 => by rw [Nat.sub_self, Nat.add_zero], fun t h1 h2 => by omega⟩
theorem rot_eq (d : Array α) (m i : Nat) (h1 : i ≤ m) (h2 : m + i ≤ d.size) : Rot d (sr d (m - i) m i) (m - i) m (m + i) := by
  refine ⟨sr_perm d _ _ _ _ (Nat.le_refl _) h2 i (by omega) (by omega), fun t p q => ?_, fun t p q => ?_⟩
  · rw [sr_get d _ _ _ (by omega) h2, if_pos (by omega)]
  · rw [sr_get d _ _ _ (by omega) h2, if_neg (by omega), if_pos (by omega)]; congr 1; omega
theorem rot_gt {d d' : Array α} {m i j : Nat} (hij : j < i) (h1 : i ≤ m) (h2 : m + j ≤ d.size) (h : Rot (sr d (m - i) m j) d' (m - (i - j)) m (m + j)) : Rot d d' (m - i) m (m + j) := by
  have g := sr_get d (m - i) m j (by omega) h2
  obtain ⟨hp, r1, r2⟩ := h
  have hp' := permIn_mono _ _ _ _ (m - i) (m + j) (by omega) (Nat.le_refl _) (by rw [size_sr]; exact h2) hp
  refine ⟨permIn_trans _ _ _ _ _ (sr_perm d _ _ _ _ (Nat.le_refl _) h2 j (by omega) (by omega)) hp', fun t p q => ?_, fun t p q => ?_⟩
  · rw [hp.2.1 t (by omega), g, if_pos (by omega)]
  · by_cases c : t < m - (i - j) + j
    · rw [r1 t (by omega) (by omega), g, if_neg (by omega), if_pos (by omega)]; congr 1; omega
    · rw [r2 t (by omega) (by omega), g, if_neg (by omega), if_neg (by omega)]
theorem rot_lt {d d' : Array α} {m i j : Nat} (hij : i < j) (h1 : i ≤ m) (h2 : m + j ≤ d.size) (h : Rot (sr d (m - i) (m + j - i) i) d' (m - i) m (m + (j - i))) : Rot d d' (m - i) m (m + j) := by
  have g := sr_get d (m - i) (m + j - i) i (by omega) (by omega)
  obtain ⟨hp, r1, r2⟩ := h
  have hp' := permIn_mono _ _ _ _ (m - i) (m + j) (Nat.le_refl _) (by omega) (by rw [size_sr]; exact h2) hp
  refine ⟨permIn_trans _ _ _ _ _ (sr_perm d _ _ _ _ (Nat.le_refl _) h2 i (by omega) (by omega)) hp', fun t p q => ?_, fun t p q => ?_⟩
  · by_cases c : t < m - i + (j - i)
    · rw [r1 t (by omega) (by omega), g, if_neg (by omega), if_neg (by omega)]
    · rw [r2 t (by omega) (by omega), g, if_pos (by omega)]; congr 1; omega
  · rw [hp.2.1 t (by omega), g, if_neg (by omega), if_pos (by omega)]; congr 1; omega

/-- n swaps up from a: the first goes to a + n. -/
def up (d : Array α) (a : Nat) : Nat → Array α
  | 0 => d
  | n + 1 => swp (up d a n) (a + n) (a + n + 1)
theorem size_up (d : Array α) (a : Nat) : ∀ n, (up d a n).size = d.size
  | 0 => rfl
  | n + 1 => by rw [up, size_swp, size_up d a n]
theorem up_get (d : Array α) (a : Nat) : ∀ (n : Nat), a + n < d.size → ∀ t, (up d a n)[t]! = if a ≤ t ∧ t < a + n then d[t + 1]! else if t = a + n then d[a]! else d[t]!
  | 0, h, t => by
    rw [up, if_neg (by omega)]; by_cases c : t = a
    · subst c; rw [if_pos (by omega)]
    · rw [if_neg (by omega)]
  | n + 1, h, t => by
    have ih := up_get d a n (by omega)
    rw [up, swp_get' _ (by rw [size_up]; omega) (by rw [size_up]; omega), ih, ih, ih]
    by_cases c1 : t = a + n + 1
    · subst c1
      rw [if_pos rfl, if_neg (by omega), if_pos rfl, if_neg (by omega), if_pos (by omega)]
    · rw [if_neg c1]
      by_cases c2 : t = a + n
      · subst c2
        rw [if_pos rfl, if_neg (by omega), if_neg (by omega), if_pos (by omega)]
      · rw [if_neg c2]
        by_cases c3 : a ≤ t ∧ t < a + n
        · rw [if_pos c3, if_pos (by omega)]
        · rw [if_neg c3, if_neg c2, if_neg (by omega), if_neg (by omega)]
theorem up_perm (d : Array α) (a b : Nat) (hb : b ≤ d.size) : ∀ n, a + n < b → PermIn a b d (up d a n)
  | 0, _ => permIn_refl _ _ _
  | n + 1, h => permIn_trans _ _ _ _ _ (up_perm d a b hb n (by omega)) (swp_permIn _ _ _ _ _ (by omega) (by omega) (by omega) (by omega) (by rw [size_up]; exact hb))
/-- n swaps down from m: the last goes to m - n. -/
def dn (d : Array α) (m : Nat) : Nat → Array α
  | 0 => d
  | n + 1 => swp (dn d m n) (m - n) (m - n - 1)
theorem size_dn (d : Array α) (m : Nat) : ∀ n, (dn d m n).size = d.size
  | 0 => rfl
  | n + 1 => by rw [dn, size_swp, size_dn d m n]
theorem dn_get (d : Array α) (m : Nat) (hm : m < d.size) : ∀ (n : Nat), n ≤ m → ∀ t, (dn d m n)[t]! = if m - n < t ∧ t ≤ m then d[t - 1]! else if t = m - n then d[m]! else d[t]!
  | 0, h, t => by
    rw [dn, if_neg (by omega)]; by_cases c : t = m
    · subst c; rw [if_pos (by omega)]
    · rw [if_neg (by omega)]
  | n + 1, h, t => by
    have ih := dn_get d m hm n (by omega)
    rw [dn, swp_get' _ (by rw [size_dn]; omega) (by rw [size_dn]; omega), ih, ih, ih]
    by_cases c1 : t = m - n - 1
    · subst c1
      rw [if_pos rfl, if_neg (by omega), if_pos rfl, if_neg (by omega), if_pos (by omega)]
    · rw [if_neg c1]
      by_cases c2 : t = m - n
      · subst c2
        rw [if_pos rfl, if_neg (by omega), if_neg (by omega), if_pos (by omega)]
      · rw [if_neg c2]
        by_cases c3 : m - n < t ∧ t ≤ m
        · rw [if_pos c3, if_pos (by omega)]
        · rw [if_neg c3, if_neg c2, if_neg (by omega), if_neg (by omega)]
theorem dn_perm (d : Array α) (a m b : Nat) (hb : b ≤ d.size) (hmb : m < b) : ∀ n, a + n ≤ m → PermIn a b d (dn d m n)
  | 0, _ => permIn_refl _ _ _
  | n + 1, h => permIn_trans _ _ _ _ _ (dn_perm d a m b hb hmb n (by omega)) (swp_permIn _ _ _ _ _ (by omega) (by omega) (by omega) (by omega) (by rw [size_dn]; exact hb))

variable {lt : α → α → Bool}
/-- One element put into its place among the sorted rest, from the left. -/
theorem merge_one_left (O : SWO lt) {d : Array α} {a b i : Nat} (hs : SortedIn lt (a + 1) b d) (hb : b ≤ d.size) (hi : a + 1 ≤ i ∧ i ≤ b) (h1 : ∀ t, a + 1 ≤ t → t < i → lt d[t]! d[a]! = true) (h2 : ∀ t, i ≤ t → t < b → lt d[t]! d[a]! = false) :
    SortedIn lt a b (up d a (i - 1 - a)) ∧ PermIn a b d (up d a (i - 1 - a)) := by
  have g := up_get d a (i - 1 - a) (by omega)
  have asym : ∀ x y, lt x y = true → lt y x = false := fun x y h => by
    cases h' : lt y x with
    | false => rfl
    | true => have := O.trans _ _ _ h h'; rw [O.irrefl] at this; cases this
  refine ⟨fun p q hp hpq hq => ?_, up_perm d a b hb _ (by omega)⟩
  rw [g p, g q]
  by_cases cp : p < i - 1
  · rw [if_pos (c := a ≤ p ∧ _) (by omega)]
    by_cases cq : q < i - 1
    · rw [if_pos (by omega)]; exact hs _ _ (by omega) (by omega) (by omega)
    · rw [if_neg (by omega)]
      by_cases cq' : q = i - 1
      · rw [if_pos (by omega)]; exact asym _ _ (h1 _ (by omega) (by omega))
      · rw [if_neg (by omega)]; exact hs _ _ (by omega) (by omega) (by omega)
  · rw [if_neg (c := a ≤ p ∧ _) (by omega), if_neg (c := a ≤ q ∧ _) (by omega), if_neg (c := q = _) (by omega)]
    by_cases cp' : p = i - 1
    · rw [if_pos (by omega)]; exact h2 _ (by omega) (by omega)
    · rw [if_neg (by omega)]; exact hs _ _ (by omega) (by omega) (by omega)
/-- .. from the right. -/
theorem merge_one_right (O : SWO lt) {d : Array α} {a m i : Nat} (hs : SortedIn lt a m d) (hb : m + 1 ≤ d.size) (hi : a ≤ i ∧ i ≤ m) (h1 : ∀ t, a ≤ t → t < i → lt d[m]! d[t]! = false) (h2 : ∀ t, i ≤ t → t < m → lt d[m]! d[t]! = true) :
    SortedIn lt a (m + 1) (dn d m (m - i)) ∧ PermIn a (m + 1) d (dn d m (m - i)) := by
  have g := dn_get d m (by omega) (m - i) (by omega)
  have asym : ∀ x y, lt x y = true → lt y x = false := fun x y h => by
    cases h' : lt y x with
    | false => rfl
    | true => have := O.trans _ _ _ h h'; rw [O.irrefl] at this; cases this
  refine ⟨fun p q hp hpq hq => ?_, dn_perm d a m (m + 1) hb (by omega) _ (by omega)⟩
  rw [g p, g q]
  by_cases cp : i < p
  · rw [if_pos (c := _ < p ∧ _) (by omega), if_pos (by omega)]; exact hs _ _ (by omega) (by omega) (by omega)
  · rw [if_neg (c := _ < p ∧ _) (by omega)]
    by_cases cp' : p = i
    · rw [if_pos (c := p = _) (by omega), if_pos (by omega)]; exact asym _ _ (h2 _ (by omega) (by omega))
    · rw [if_neg (c := p = _) (by omega)]
      by_cases cq : i < q
      · rw [if_pos (by omega)]; exact hs _ _ (by omega) (by omega) (by omega)
      · rw [if_neg (by omega)]
        by_cases cq' : q = i
        · rw [if_pos (by omega)]; exact h1 _ (by omega) (by omega)
        · rw [if_neg (by omega)]; exact hs _ _ (by omega) (by omega) (by omega)

theorem sortedIn_congr {d d' : Array α} {a b : Nat} (h : ∀ t, a ≤ t → t < b → d'[t]! = d[t]!) (hs : SortedIn lt a b d) : SortedIn lt a b d' := fun p q h1 h2 h3 => by
  rw [h p h1 (by omega), h q (by omega) h3]; exact hs p q h1 h2 h3
theorem le_of_sorted (O : SWO lt) {d : Array α} {a b p q : Nat} (hs : SortedIn lt a b d) (h1 : a ≤ p) (h2 : p ≤ q) (h3 : q < b) : lt d[q]! d[p]! = false := by
  rcases Nat.lt_or_ge p q with h | h
  · exact hs p q h1 h h3
  · rw [show p = q by omega]; exact O.irrefl _
/-- The parting of two sorted parts at start, end = mid + m - start. -/
def Part (lt : α → α → Bool) (d : Array α) (a m b mid s : Nat) : Prop :=
  a ≤ s ∧ s ≤ m ∧ m ≤ mid + m - s ∧ mid + m - s ≤ b ∧ s ≤ mid ∧ (∀ p q, a ≤ p → p < s → mid + m - s ≤ q → q < b → lt d[q]! d[p]! = false) ∧ (∀ p q, s ≤ p → p < m → m ≤ q → q < mid + m - s → lt d[q]! d[p]! = true)
/-- What the search for the parting knows, from both sides. -/
theorem part_of (O : SWO lt) {d : Array α} {a m b mid s s0 r0 : Nat} (h1 : SortedIn lt a m d) (h2 : SortedIn lt m b d) (ham : a < m) (hmb : m < b) (hmid : mid = (a + b) / 2)
    (h0 : (m > mid ∧ s0 = mid + m - b ∧ r0 = mid) ∨ (m ≤ mid ∧ s0 = a ∧ r0 = m)) (hs : s0 ≤ s ∧ s ≤ r0) (hlo : ∀ c, s0 ≤ c → c < s → lt d[mid + m - 1 - c]! d[c]! = false) (hhi : ∀ c, s ≤ c → c < r0 → lt d[mid + m - 1 - c]! d[c]! = true) : Part lt d a m b mid s := by
  refine ⟨by omega, by omega, by omega, by omega, by omega, fun p q p1 p2 q1 q2 => ?_, fun p q p1 p2 q1 q2 => ?_⟩
  · have hc := hlo (s - 1) (by omega) (by omega)
    have e : mid + m - 1 - (s - 1) = mid + m - s := by omega
    rw [e] at hc
    have l1 := le_of_sorted O h1 p1 (show p ≤ s - 1 by omega) (by omega)
    have l2 := le_of_sorted O h2 (show m ≤ mid + m - s by omega) q1 q2
    exact O.ntrans _ _ _ (O.ntrans _ _ _ l2 hc) l1
  · have hc := hhi s (Nat.le_refl _) (by omega)
    have l1 := le_of_sorted O h1 (show a ≤ s by omega) p1 p2
    have l2 := le_of_sorted O h2 q1 (show q ≤ mid + m - 1 - s by omega) (by omega)
    cases h : lt d[q]! d[p]! with
    | true => rfl
    | false =>
      have := O.ntrans _ _ _ l2 (show lt d[q]! d[s]! = false from O.ntrans _ _ _ h l1)
      rw [hc] at this; cases this
/-- Behind the rotation: four sorted parts, the left half no greater than the right half. -/
theorem rot_parts (O : SWO lt) {d d1 : Array α} {a m b mid s : Nat} (h1 : SortedIn lt a m d) (h2 : SortedIn lt m b d) (P : Part lt d a m b mid s) (hR : Rot d d1 s m (mid + m - s)) :
    SortedIn lt a s d1 ∧ SortedIn lt s mid d1 ∧ SortedIn lt mid (mid + m - s) d1 ∧ SortedIn lt (mid + m - s) b d1 ∧ (∀ p q, a ≤ p → p < mid → mid ≤ q → q < b → lt d1[q]! d1[p]! = false) := by
  obtain ⟨p1, p2, p3, p4, p5, lo, hi⟩ := P
  obtain ⟨hp, r1, r2⟩ := hR
  have out : ∀ t, t < s ∨ mid + m - s ≤ t → d1[t]! = d[t]! := fun t h => hp.2.1 t h
  have L : ∀ t, s ≤ t → t < mid → d1[t]! = d[t + (m - s)]! := fun t x y => r1 t x (by omega)
  have R : ∀ t, mid ≤ t → t < mid + m - s → d1[t]! = d[t - (mid - s)]! := fun t x y => by rw [r2 t (by omega) y]; congr 1; omega
  have asym : ∀ x y, lt x y = true → lt y x = false := fun x y h => by
    cases h' : lt y x with
    | false => rfl
    | true => have := O.trans _ _ _ h h'; rw [O.irrefl] at this; cases this
  refine ⟨fun p q x y z => ?_, fun p q x y z => ?_, fun p q x y z => ?_, fun p q x y z => ?_, fun p q x y z v => ?_⟩
  · rw [out p (by omega), out q (by omega)]; exact h1 p q x y (by omega)
  · rw [L p (by omega) (by omega), L q (by omega) (by omega)]; exact h2 _ _ (by omega) (by omega) (by omega)
  · rw [R p (by omega) (by omega), R q (by omega) (by omega)]; exact h1 _ _ (by omega) (by omega) (by omega)
  · rw [out p (by omega), out q (by omega)]; exact h2 p q (by omega) y z
  · by_cases cp : p < s
    · rw [out p (by omega)]
      by_cases cq : q < mid + m - s
      · rw [R q z cq]; exact le_of_sorted O h1 x (by omega) (by omega)
      · rw [out q (by omega)]; exact lo p q x cp (by omega) v
    · rw [L p (by omega) y]
      by_cases cq : q < mid + m - s
      · rw [R q z cq]; exact asym _ _ (hi _ _ (by omega) (by omega) (by omega) (by omega))
      · rw [out q (by omega)]; exact le_of_sorted O h2 (by omega) (by omega) v
/-- Both halves sorted: the whole. -/
theorem halves (O : SWO lt) {d1 d2 d3 : Array α} {a mid b : Nat} (hb : b ≤ d1.size) (hm : a ≤ mid ∧ mid ≤ b) (hx : ∀ p q, a ≤ p → p < mid → mid ≤ q → q < b → lt d1[q]! d1[p]! = false)
    (p2 : PermIn a mid d1 d2) (s2 : SortedIn lt a mid d2) (p3 : PermIn mid b d2 d3) (s3 : SortedIn lt mid b d3) : SortedIn lt a b d3 ∧ PermIn a b d1 d3 := by
  have z2 : d2.size = d1.size := p2.1
  have z3 : d3.size = d2.size := p3.1
  have same3 : ∀ t, t < mid → d3[t]! = d2[t]! := fun t h => p3.2.1 t (.inl h)
  have same2 : ∀ t, mid ≤ t → d2[t]! = d1[t]! := fun t h => p2.2.1 t (.inr h)
  have cross2 : ∀ q, mid ≤ q → q < b → ∀ p, a ≤ p → p < mid → lt d1[q]! d2[p]! = false := fun q h1 h2 =>
    permIn_all d1 d2 a mid (fun x => lt d1[q]! x = false) (by omega) p2 (fun p x y => hx p q x y h1 h2)
  have cross3 : ∀ p, a ≤ p → p < mid → ∀ q, mid ≤ q → q < b → lt d3[q]! d2[p]! = false := fun p h1 h2 =>
    permIn_all d2 d3 mid b (fun x => lt x d2[p]! = false) (by omega) p3 (fun q x y => by rw [same2 q x]; exact cross2 q x y p h1 h2)
  refine ⟨fun p q x y z => ?_, permIn_trans _ _ _ _ _ (permIn_mono _ _ _ _ a b (Nat.le_refl _) hm.2 hb p2) (permIn_mono _ _ _ _ a b hm.1 (Nat.le_refl _) (by omega) p3)⟩
  by_cases cq : q < mid
  · rw [same3 p (by omega), same3 q cq]; exact s2 p q x y cq
  · by_cases cp : p < mid
    · rw [same3 p cp]; exact cross3 p x cp q (by omega) z
    · exact s3 p q (by omega) y z
end
end Go.Proofs.Ytfimodphnfejdaa.Srt
