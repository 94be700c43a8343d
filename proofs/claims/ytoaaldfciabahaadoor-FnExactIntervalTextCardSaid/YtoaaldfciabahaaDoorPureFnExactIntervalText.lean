/- The law FnExactIntervalText returns true for all intervals of four whole numbers of 64 bits. -/
import Derived.Test.YtoaaldfciabahaaDoorQFnExactIntervalTexty2
import Derived.Test.YtoaaldfciabahaaDoorM0
import Derived.Test.YtoaaldfciabahaaDoorMT
namespace Go.Proofs.YtoaaldfciabahaaDoor.PureFnExactIntervalText
open Go Go.RowKit Go.Proofs.YtoaaldfciabahaaDoor.PFnExactIntervalText Go.Proofs.YtoaaldfciabahaaDoor.My Go.Proofs.YtoaaldfciabahaaDoorW.PrintWords Go.Proofs.YtoaaldfciabahaaDoorW.PrintLast Go.Proofs.YtoaaldfciabahaaDoorW.PrintMore
set_option linter.unusedVariables false
set_option linter.unusedSimpArgs false
theorem within_eq (a b c : Int) : impl_within.f a b c = some (decide (b ≤ a ∧ a ≤ c)) := by
  unfold impl_within.f
  by_cases h : b ≤ a <;> simp [h]
theorem l01In_eq (a b c : Int) : spec_l01In.f a b c = some (decide (b ≤ a ∧ a ≤ c)) := by
  unfold spec_l01In.f
  by_cases h : b ≤ a <;> simp [h]
theorem iok_eq (a b c r : Int) : impl_IntervalOk.f a b c r = some (decide (Ok a b c r)) := by
  simp only [impl_IntervalOk.f, within_eq, Option.bind_some, Ok]
  by_cases h1 : 1 ≤ r ∧ r ≤ 12 <;> by_cases h2 : -400 ≤ a ∧ a ≤ 400 <;> by_cases h3 : -400 ≤ b ∧ b ≤ 400 <;> simp [h1, h2, h3]
theorem sok_eq (a b c r : Int) : spec_IntervalOk.f a b c r = some (decide (Ok a b c r)) := by
  simp only [spec_IntervalOk.f, l01In_eq, Option.bind_some, Ok]
  by_cases h1 : 1 ≤ r ∧ r ≤ 12 <;> by_cases h2 : -400 ≤ a ∧ a ≤ 400 <;> by_cases h3 : -400 ≤ b ∧ b ≤ 400 <;> simp [h1, h2, h3]
/-! spec.FormatInt writes the decimal numeral. -/
theorem figure_eq {d : Int} (h0 : 0 ≤ d) (h : d < 10) : spec_l01Figure.f d = some (48 + d) := by
  simp only [spec_l01Figure.f, if_pos h]; congr 1; unfold wrap64; omega
theorem strDig (u : Nat) : strOfNums [48 + ((u % 10 : Nat) : Int)] = tx [UInt8.ofNat (48 + u % 10)] := by
  have : (48 + ((u % 10 : Nat) : Int)).toNat = 48 + u % 10 := by omega
  simp only [strOfNums, tx, List.map_cons, List.map_nil, this]
theorem fmt_round (k : Nat) (x : Int) (b : Bool) (acc : ByteArray) (h1 : -9223372036854775808 ≤ x) (h2 : x ≤ 9223372036854775807) (h0 : x ≠ 0) (hs : acc.size ≤ 1000) :
    spec_FormatInt.l0 (k + 1) x b acc = spec_FormatInt.l0 k (Int.tdiv x 10) b (tx [UInt8.ofNat (48 + x.natAbs % 10)] ++ acc) := by
  rw [spec_FormatInt.l0, if_neg h0]
  have hd : wrap64 (Int.tdiv x 10) = Int.tdiv x 10 := by
    rcases Int.le_total 0 x with p | p
    · rw [Int.tdiv_eq_ediv_of_nonneg p]; apply wrap_id <;> omega
    · obtain ⟨y, rfl⟩ : ∃ y, x = -y := ⟨-x, by omega⟩
      rw [Int.neg_tdiv, Int.tdiv_eq_ediv_of_nonneg (by omega)]; apply wrap_id <;> omega
  have size1 : ∀ d : UInt8, (tx [d]).size = 1 := fun d => by simp [tx_size]
  rcases Int.lt_or_le x 0 with p | p
  · obtain ⟨y, rfl⟩ : ∃ y : Nat, x = -(y : Int) := ⟨x.natAbs, by omega⟩
    have hm : Int.tmod (-(y : Int)) 10 = -((y % 10 : Nat) : Int) := by rw [Int.neg_tmod, Int.tmod_eq_emod_of_nonneg (by omega)]; rfl
    rw [hm, hd, show (-(y : Int)).natAbs = y by omega]
    by_cases c : -((y % 10 : Nat) : Int) < 0
    · rw [if_pos c, show wrap64 (-(-((y % 10 : Nat) : Int))) = ((y % 10 : Nat) : Int) by rw [Int.neg_neg]; apply wrap_id <;> omega, figure_eq (by omega) (by omega)]
      simp only [Option.bind_some, strDig, size1]
      rw [if_pos (by omega)]
    · rw [if_neg c]
      have e : y % 10 = 0 := by omega
      rw [e]
      simp only [Int.ofNat_zero, Int.neg_zero, figure_eq (d := 0) (by omega) (by omega), Option.bind_some]
      have := strDig 0
      simp only [Nat.zero_mod, Int.natCast_zero] at this
      simp only [Int.cast_ofNat_Int, Int.natCast_zero, Int.neg_zero, figure_eq (d := 0) (by omega) (by omega), Option.bind_some, this, size1]
      rw [if_pos (by omega)]
  · obtain ⟨y, rfl⟩ : ∃ y : Nat, x = (y : Int) := ⟨x.natAbs, by omega⟩
    have hm : Int.tmod (y : Int) 10 = ((y % 10 : Nat) : Int) := by rw [Int.tmod_eq_emod_of_nonneg (by omega)]; rfl
    rw [hm, hd, show ((y : Int)).natAbs = y by omega, if_neg (by omega), figure_eq (by omega) (by omega)]
    simp only [Option.bind_some, strDig, size1]
    rw [if_pos (by omega)]
def fin (b : Bool) (s : ByteArray) : ByteArray := if b = true then tx [45] ++ s else s
theorem fmt_loop (b : Bool) (u : Nat) : ∀ (x : Int) (acc : ByteArray), x.natAbs = u → x ≠ 0 → -9223372036854775808 ≤ x → x ≤ 9223372036854775807 → acc.size + (Lib.decDigits u).length ≤ 900 →
    Ev (fun k => spec_FormatInt.l0 k x b acc) (fin b (tx (Lib.decDigits u) ++ acc)) := by
  induction u using Nat.strongRecOn with
  | _ u ih =>
    intro x acc hu h0 h1 h2 hs
    refine Ev_round _ (fun k => fmt_round k x b acc h1 h2 h0 (by omega)) ?_
    rw [hu]
    have hq : (Int.tdiv x 10).natAbs = u / 10 := by
      rw [Int.natAbs_tdiv, hu]; rfl
    by_cases c : u < 10
    · have hz : Int.tdiv x 10 = 0 := by have : u / 10 = 0 := by omega
                                        rw [this] at hq; omega
      rw [hz, show Lib.decDigits u = [UInt8.ofNat (48 + u % 10)] by rw [Lib.decDigits, dif_pos c, Nat.mod_eq_of_lt c]]
      refine Ev_at1 fun k => ?_
      have hl : (tx [UInt8.ofNat (48 + u % 10)] ++ acc).size = 1 + acc.size := by simp [tx_size]
      rw [spec_FormatInt.l0, if_pos rfl, hl]
      cases b
      · simp [fin]
      · rw [if_pos rfl, if_pos (by omega)]; rfl
    · have hlen : (Lib.decDigits u).length = (Lib.decDigits (u / 10)).length + 1 := by rw [Lib.decDigits, dif_neg c]; simp
      have hl : (tx [UInt8.ofNat (48 + u % 10)] ++ acc).size = 1 + acc.size := by simp [tx_size]
      have hx : -9223372036854775808 ≤ Int.tdiv x 10 ∧ Int.tdiv x 10 ≤ 9223372036854775807 := by omega
      have := ih (u / 10) (by omega) (Int.tdiv x 10) (tx [UInt8.ofNat (48 + u % 10)] ++ acc) hq (by omega) hx.1 hx.2 (by omega)
      rw [← ByteArray.append_assoc, tx_append] at this
      rwa [show Lib.decDigits u = Lib.decDigits (u / 10) ++ [UInt8.ofNat (48 + u % 10)] by rw [Lib.decDigits, dif_neg c]]
theorem fmt_ev (n : Int) (h1 : -9223372036854775808 ≤ n) (h2 : n ≤ 9223372036854775807) : Ev (fun k => spec_FormatInt.f k n) (tx (Lib.itoa n)) := by
  by_cases c : n = 0
  · subst c
    refine Ev_eq fun k => ?_
    simp only [spec_FormatInt.f, if_pos rfl]
    rw [show Lib.itoa 0 = [48] by rw [Lib.itoa, if_neg (by omega), Lib.decDigits]; rfl]; rfl
  · simp only [spec_FormatInt.f, if_neg c]
    have := fmt_loop (decide (n < 0)) n.natAbs n ⟨#[]⟩ rfl c h1 h2 (by have := decDigits_len (u := n.natAbs) (by omega); simp [ByteArray.size]; omega)
    have e : fin (decide (n < 0)) (tx (Lib.decDigits n.natAbs) ++ (⟨#[]⟩ : ByteArray)) = tx (Lib.itoa n) := by
      have e0 : tx (Lib.decDigits n.natAbs) ++ (⟨#[]⟩ : ByteArray) = tx (Lib.decDigits n.natAbs) := by
        rw [show (⟨#[]⟩ : ByteArray) = tx [] from rfl, tx_append]; simp
      rw [e0, fin, Lib.itoa]
      by_cases p : n < 0
      · rw [if_pos (by simpa using p), if_pos p, tx_append]; rfl
      · rw [if_neg (by simpa using p), if_neg p, show n.natAbs = n.toNat by omega]
    rwa [e] at this
theorem ifmt_eq (k : Nat) (n : Int) (h : (Lit.int .i64 n).wf = true) : impl_FormatInt.f k n = some (tx (Lib.itoa n)) := by
  rw [impl_FormatInt.f, if_pos h]; rfl
theorem itoa_len (n : Int) (h : (Lit.int .i64 n).wf = true) : (Lib.itoa n).length ≤ 21 := Lib.itoa_length_le n (wf_i64 h).1 (wf_i64 h).2
def T (a b c r : Int) : ByteArray :=
  if Ok a b c r then
    if r = 1 then ((((tx (Lib.itoa a) ++ (⟨#[44]⟩ : ByteArray)) ++ tx (Lib.itoa b)) ++ (⟨#[44]⟩ : ByteArray)) ++ tx (Lib.itoa c))
    else (((((tx (Lib.itoa a) ++ (⟨#[44]⟩ : ByteArray)) ++ tx (Lib.itoa b)) ++ (⟨#[44]⟩ : ByteArray)) ++ tx (Lib.itoa c)) ++ (⟨#[47]⟩ : ByteArray)) ++ tx (Lib.itoa r)
  else (⟨#[]⟩ : ByteArray)
theorem main (a b c r : Int) (wa : (Lit.int .i64 a).wf = true) (wb : (Lit.int .i64 b).wf = true) (wc : (Lit.int .i64 c).wf = true) (wr : (Lit.int .i64 r).wf = true) : ∃ k, laws_FnExactIntervalText.f k a b c r = some true := by
  obtain ⟨Ka, ha⟩ := fmt_ev a (wf_i64 wa).1 (wf_i64 wa).2
  obtain ⟨Kb, hb⟩ := fmt_ev b (wf_i64 wb).1 (wf_i64 wb).2
  obtain ⟨Kc, hc⟩ := fmt_ev c (wf_i64 wc).1 (wf_i64 wc).2
  obtain ⟨Kr, hr⟩ := fmt_ev r (wf_i64 wr).1 (wf_i64 wr).2
  have la := itoa_len a wa; have lb := itoa_len b wb; have lc := itoa_len c wc; have lr := itoa_len r wr
  refine ⟨Ka + Kb + Kc + Kr, ?_⟩
  have ha := ha (Ka + Kb + Kc + Kr) (by omega)
  have hb := hb (Ka + Kb + Kc + Kr) (by omega)
  have hc := hc (Ka + Kb + Kc + Kr) (by omega)
  have hr := hr (Ka + Kb + Kc + Kr) (by omega)
  generalize Ka + Kb + Kc + Kr = k at ha hb hc hr ⊢
  have hs : spec_IntervalText.f k a b c r = some (T a b c r) := by
    simp only [spec_IntervalText.f, sok_eq, ha, hb, hc, hr, Option.bind_some, ByteArray.size_append, tx_size, size_one, size_none, T]
    by_cases ok : Ok a b c r
    · simp only [ok, decide_true, if_true]
      rw [if_pos (by omega), if_pos (by omega), if_pos (by omega), if_pos (by omega)]
      by_cases h1 : r = 1
      · rw [if_pos h1, if_pos h1]
      · rw [if_neg h1, if_neg h1, if_pos (by omega), if_pos (by omega)]
    · simp [ok]
  have hi : impl_IntervalText.f k a b c r = some (T a b c r) := by
    simp only [impl_IntervalText.f, iok_eq, ifmt_eq, wa, wb, wc, wr, Option.bind_some, ByteArray.size_append, tx_size, size_one, size_none, T]
    by_cases ok : Ok a b c r
    · simp only [ok, decide_true, if_true]
      rw [if_pos (by omega), if_pos (by omega), if_pos (by omega), if_pos (by omega)]
      by_cases h1 : r = 1
      · rw [if_pos h1, if_pos h1]
      · rw [if_neg h1, if_neg h1, if_pos (by omega), if_pos (by omega)]
    · simp [ok]
  simp only [laws_FnExactIntervalText.f, laws_toInterval.f, Option.bind_some, hs, hi, if_true]

end Go.Proofs.YtoaaldfciabahaaDoor.PureFnExactIntervalText
