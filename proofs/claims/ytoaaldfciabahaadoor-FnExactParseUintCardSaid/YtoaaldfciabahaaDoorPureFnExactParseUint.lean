/- The law FnExactParseUint returns true for all texts of less than 2^47 bytes. -/
import Derived.Test.YtoaaldfciabahaaDoorQFnExactParseUinty1
import Derived.Test.YtoaaldfciabahaaDoorM0
import Derived.Test.YtoaaldfciabahaaDoorMT
namespace Go.Proofs.YtoaaldfciabahaaDoor.PureFnExactParseUint
open Go Go.RowKit Go.Proofs.YtoaaldfciabahaaDoor.PFnExactParseUint Go.Proofs.YtoaaldfciabahaaDoor.My Go.Proofs.YtoaaldfciabahaaDoorW.PrintWords Go.Proofs.YtoaaldfciabahaaDoorW.PrintLast Go.Proofs.YtoaaldfciabahaaDoorW.PrintMore
set_option linter.unusedVariables false
set_option linter.unusedSimpArgs false
/-! spec.FormatInt writes the decimal numeral. -/
theorem figure_eq {d : Int} (h0 : 0 ≤ d) (h : d < 10) : spec_l01Figure.f d = some (48 + d) := by
  simp only [spec_l01Figure.f, if_pos h]; congr 1; unfold wrap64; omega
theorem strDig (u : Nat) : strOfNums [48 + ((u % 10 : Nat) : Int)] = tx [UInt8.ofNat (48 + u % 10)] := by
  have : (48 + ((u % 10 : Nat) : Int)).toNat = 48 + u % 10 := by omega
  simp only [strOfNums, tx, List.map_cons, List.map_nil, this]
theorem fmt_round (k : Nat) (x : Int) (b : Bool) (acc : ByteArray) (h1 : -9223372036854775808 ≤ x) (h2 : x ≤ 9223372036854775807) (h0 : x ≠ 0) (hs : acc.size ≤ 1000) :
    spec_FormatInt.l0 (k + 1) x b acc = spec_FormatInt.l0 k (Int.tdiv x 10) b (tx [UInt8.ofNat (48 + x.natAbs % 10)] ++ acc) := by
  rw [spec_FormatInt.l0, if_neg h0]
  have hd : wrap64 (Int.tdiv x 10) = Int.tdiv x 10 := by
    rcases Int.le_total 0 x with p | p
    · rw [Int.tdiv_eq_ediv_of_nonneg p]; apply wrap_id <;> omega
    · obtain ⟨y, rfl⟩ : ∃ y, x = -y := ⟨-x, by omega⟩
      rw [Int.neg_tdiv, Int.tdiv_eq_ediv_of_nonneg (by omega)]; apply wrap_id <;> omega
  have size1 : ∀ d : UInt8, (tx [d]).size = 1 := fun d => by simp [tx_size]
  rcases Int.lt_or_le x 0 with p | p
  · obtain ⟨y, rfl⟩ : ∃ y : Nat, x = -(y : Int) := ⟨x.natAbs, by omega⟩
    have hm : Int.tmod (-(y : Int)) 10 = -((y % 10 : Nat) : Int) := by rw [Int.neg_tmod, Int.tmod_eq_emod_of_nonneg (by omega)]; rfl
    rw [hm, hd, show (-(y : Int)).natAbs = y by omega]
    by_cases c : -((y % 10 : Nat) : Int) < 0
    · rw [if_pos c, show wrap64 (-(-((y % 10 : Nat) : Int))) = ((y % 10 : Nat) : Int) by rw [Int.neg_neg]; apply wrap_id <;> omega, figure_eq (by omega) (by omega)]
      simp only [Option.bind_some, strDig, size1]
      rw [if_pos (by omega)]
    · rw [if_neg c]
      have e : y % 10 = 0 := by omega
      rw [e]
      simp only [Int.ofNat_zero, Int.neg_zero, figure_eq (d := 0) (by omega) (by omega), Option.bind_some]
      have := strDig 0
      simp only [Nat.zero_mod, Int.natCast_zero] at this
      simp only [Int.cast_ofNat_Int, Int.natCast_zero, Int.neg_zero, figure_eq (d := 0) (by omega) (by omega), Option.bind_some, this, size1]
      rw [if_pos (by omega)]
  · obtain ⟨y, rfl⟩ : ∃ y : Nat, x = (y : Int) := ⟨x.natAbs, by omega⟩
    have hm : Int.tmod (y : Int) 10 = ((y % 10 : Nat) : Int) := by rw [Int.tmod_eq_emod_of_nonneg (by omega)]; rfl
    rw [hm, hd, show ((y : Int)).natAbs = y by omega, if_neg (by omega), figure_eq (by omega) (by omega)]
    simp only [Option.bind_some, strDig, size1]
    rw [if_pos (by omega)]
def fin (b : Bool) (s : ByteArray) : ByteArray := if b = true then tx [45] ++ s else s
theorem fmt_loop (b : Bool) (u : Nat) : ∀ (x : Int) (acc : ByteArray), x.natAbs = u → x ≠ 0 → -9223372036854775808 ≤ x → x ≤ 9223372036854775807 → acc.size + (Lib.decDigits u).length ≤ 900 →
    Ev (fun k => spec_FormatInt.l0 k x b acc) (fin b (tx (Lib.decDigits u) ++ acc)) := by
  induction u using Nat.strongRecOn with
  | _ u ih =>
    intro x acc hu h0 h1 h2 hs
    refine Ev_round _ (fun k => fmt_round k x b acc h1 h2 h0 (by omega)) ?_
    rw [hu]
    have hq : (Int.tdiv x 10).natAbs = u / 10 := by
      rw [Int.natAbs_tdiv, hu]; rfl
    by_cases c : u < 10
    · have hz : Int.tdiv x 10 = 0 := by have : u / 10 = 0 := by omega
                                        rw [this] at hq; omega
      rw [hz, show Lib.decDigits u = [UInt8.ofNat (48 + u % 10)] by rw [Lib.decDigits, dif_pos c, Nat.mod_eq_of_lt c]]
      refine Ev_at1 fun k => ?_
      have hl : (tx [UInt8.ofNat (48 + u % 10)] ++ acc).size = 1 + acc.size := by simp [tx_size]
      rw [spec_FormatInt.l0, if_pos rfl, hl]
      cases b
      · simp [fin]
      · rw [if_pos rfl, if_pos (by omega)]; rfl
    · have hlen : (Lib.decDigits u).length = (Lib.decDigits (u / 10)).length + 1 := by rw [Lib.decDigits, dif_neg c]; simp
      have hl : (tx [UInt8.ofNat (48 + u % 10)] ++ acc).size = 1 + acc.size := by simp [tx_size]
      have hx : -9223372036854775808 ≤ Int.tdiv x 10 ∧ Int.tdiv x 10 ≤ 9223372036854775807 := by omega
      have := ih (u / 10) (by omega) (Int.tdiv x 10) (tx [UInt8.ofNat (48 + u % 10)] ++ acc) hq (by omega) hx.1 hx.2 (by omega)
      rw [← ByteArray.append_assoc, tx_append] at this
      rwa [show Lib.decDigits u = Lib.decDigits (u / 10) ++ [UInt8.ofNat (48 + u % 10)] by rw [Lib.decDigits, dif_neg c]]
theorem fmt_ev (n : Int) (h1 : -9223372036854775808 ≤ n) (h2 : n ≤ 9223372036854775807) : Ev (fun k => spec_FormatInt.f k n) (tx (Lib.itoa n)) := by
  by_cases c : n = 0
  · subst c
    refine Ev_eq fun k => ?_
    simp only [spec_FormatInt.f, if_pos rfl]
    rw [show Lib.itoa 0 = [48] by rw [Lib.itoa, if_neg (by omega), Lib.decDigits]; rfl]; rfl
  · simp only [spec_FormatInt.f, if_neg c]
    have := fmt_loop (decide (n < 0)) n.natAbs n ⟨#[]⟩ rfl c h1 h2 (by have := decDigits_len (u := n.natAbs) (by omega); simp [ByteArray.size]; omega)
    have e : fin (decide (n < 0)) (tx (Lib.decDigits n.natAbs) ++ (⟨#[]⟩ : ByteArray)) = tx (Lib.itoa n) := by
      have e0 : tx (Lib.decDigits n.natAbs) ++ (⟨#[]⟩ : ByteArray) = tx (Lib.decDigits n.natAbs) := by
        rw [show (⟨#[]⟩ : ByteArray) = tx [] from rfl, tx_append]; simp
      rw [e0, fin, Lib.itoa]
      by_cases p : n < 0
      · rw [if_pos (by simpa using p), if_pos p, tx_append]; rfl
      · rw [if_neg (by simpa using p), if_neg p, show n.natAbs = n.toNat by omega]
    rwa [e] at this
/-! The decimal numeral is read back. -/
theorem dig_nat {d : Nat} (h : d < 10) : (UInt8.ofNat (48 + d)).toNat = 48 + d := by
  rw [UInt8.toNat_ofNat']; omega
theorem mag_dec (u : Nat) : ∀ r : List UInt8, u < 18446744073709551616 → Lib.parseUint10 0 (Lib.decDigits u ++ r) = Lib.parseUint10 u r := by
  induction u using Nat.strongRecOn with
  | _ u ih =>
    intro r hu
    by_cases c : u < 10
    · rw [Lib.decDigits, dif_pos c]
      show Lib.parseUint10 0 (UInt8.ofNat (48 + u) :: r) = _
      rw [Lib.parseUint10, dig_nat c, if_pos (by omega), if_neg (by omega), if_neg (by omega)]
      congr 1; omega
    · rw [Lib.decDigits, dif_neg c, List.append_assoc, ih (u / 10) (by omega) _ (by omega)]
      show Lib.parseUint10 (u / 10) (UInt8.ofNat (48 + u % 10) :: r) = _
      rw [Lib.parseUint10, dig_nat (by omega), if_pos (by omega), if_neg (by omega), if_neg (by omega)]
      congr 1; omega
theorem dec_head (u : Nat) : ∃ d r, Lib.decDigits u = UInt8.ofNat (48 + d) :: r ∧ d < 10 := by
  induction u using Nat.strongRecOn with
  | _ u ih =>
    by_cases c : u < 10
    · exact ⟨u, [], by rw [Lib.decDigits, dif_pos c], c⟩
    · obtain ⟨d, r, e, hd⟩ := ih (u / 10) (by omega)
      exact ⟨d, r ++ [UInt8.ofNat (48 + u % 10)], by rw [Lib.decDigits, dif_neg c, e]; rfl, hd⟩
theorem mag_ok (u : Nat) (h : u < 18446744073709551616) : Lib.parseMag (Lib.decDigits u) = .ok u := by
  obtain ⟨d, r, e, hd⟩ := dec_head u
  rw [Lib.parseMag, if_neg (by rw [e]; simp)]
  have := mag_dec u [] h
  rw [List.append_nil] at this
  rw [this]; rfl
theorem atoi_itoa (n : Int) (h : (Lit.int .i64 n).wf = true) : Lib.atoiAll (Lib.itoa n) = .ok n := by
  have hb := wf_i64 h
  rw [Lib.itoa]
  by_cases c : n < 0
  · rw [if_pos c, Lib.atoiAll_minus, mag_ok _ (by omega)]
    simp only [Lib.signed]
    rw [if_neg (by omega)]; congr 1; omega
  · rw [if_neg c]
    obtain ⟨d, r, e, hd⟩ := dec_head n.toNat
    rw [e, Lib.atoiAll_plain _ _ (by rw [dig_nat hd]; omega) (by rw [dig_nat hd]; omega), ← e, mag_ok _ (by omega)]
    simp only [Lib.signless]
    rw [if_neg (by omega)]; congr 1; omega
theorem itoa_ne (n : Int) : Lib.itoa n ≠ [] := by
  rw [Lib.itoa]
  by_cases c : n < 0
  · rw [if_pos c]; simp
  · rw [if_neg c]; obtain ⟨d, r, e, _⟩ := dec_head n.toNat; rw [e]; simp
theorem itoa_len (n : Int) (h : (Lit.int .i64 n).wf = true) : (Lib.itoa n).length ≤ 21 := Lib.itoa_length_le n (wf_i64 h).1 (wf_i64 h).2
theorem parse_fmt (k : Nat) (n : Int) (h : (Lit.int .i64 n).wf = true) : impl_ParseUint.f k (tx (Lib.itoa n)) = some (if 0 ≤ n ∧ n ≤ 1000000000 then (n, true) else (0, false)) := by
  have hl := itoa_len n h
  rw [impl_ParseUint.f, if_pos (by rw [tx_size]; omega)]
  have e : (tx (Lib.itoa n)).data.toList = Lib.itoa n := by simp [tx]
  rw [e]; simp only [atoi_itoa n h]
  by_cases c : 0 ≤ n ∧ n ≤ 1000000000
  · rw [if_pos ⟨c.1, c.2, rfl⟩, if_pos c]
  · rw [if_neg (fun q => c ⟨q.1, q.2.1⟩), if_neg c]
/-! spec.ParseUint. -/
def pv : Int → List UInt8 → Option Int
  | a, [] => some a
  | a, c :: r => if c.toNat < 48 then none else if 57 < c.toNat then none else pv (10 * a + c.toNat - 48) r
theorem pv_dec (u : Nat) : ∀ r : List UInt8, pv 0 (Lib.decDigits u ++ r) = pv (u : Int) r := by
  induction u using Nat.strongRecOn with
  | _ u ih =>
    intro r
    by_cases c : u < 10
    · rw [Lib.decDigits, dif_pos c]
      show pv 0 (UInt8.ofNat (48 + u) :: r) = _
      rw [pv, dig_nat c, if_neg (by omega), if_neg (by omega)]
      congr 1; omega
    · rw [Lib.decDigits, dif_neg c, List.append_assoc, ih (u / 10) (by omega) _]
      show pv ((u / 10 : Nat) : Int) (UInt8.ofNat (48 + u % 10) :: r) = _
      rw [pv, dig_nat (by omega), if_neg (by omega), if_neg (by omega)]
      congr 1; omega
theorem pow10_le : ∀ i : Fin 11, (10 : Int) ^ i.val ≤ 10000000000 := by decide
theorem bt_list (s : ByteArray) (i : Nat) (h : i < s.data.toList.length) : bt s (i : Int) = ((s.data.toList[i]).toNat : Int) := by
  have hs : i < s.size := by rw [Lib.size_eq]; exact h
  rw [bt, dif_pos (by simpa using hs)]
  simp; rfl
def R (s : ByteArray) : Option Int → Int × Bool
  | none => (0, false)
  | some v => if v > 1000000000 then (0, false) else if (tx (Lib.itoa v)).toList = s.toList then (v, true) else (0, false)
theorem parse_loop (s : ByteArray) (hs : s.data.toList.length ≤ 10) : ∀ (d i : Nat) (x : Int), i + d = s.data.toList.length → 0 ≤ x → x < (10 : Int) ^ i →
    Ev (fun k => spec_ParseUint.l0 k s x (i : Int)) (R s (pv x (s.data.toList.drop i))) := by
  have hz : (s.size : Int) = (s.data.toList.length : Int) := by rw [Lib.size_eq]
  intro d
  induction d with
  | zero =>
    intro i x hi h0 h1
    have hp := pow10_le ⟨i, by omega⟩
    simp only at hp
    rw [List.drop_of_length_le (by omega), pv]
    refine Ev_round (fun k => if x > 1000000000 then (some ((0 : Int), false)) else ((spec_FormatInt.f k x).bind fun t109 => (if t109.toList = s.toList then (some (x, true)) else (some (0, false))))) (fun k => ?_) ?_
    · rw [spec_ParseUint.l0, if_neg (by omega)]
    · by_cases c : x > 1000000000
      · simp only [if_pos c, R]; exact Ev_eq fun k => rfl
      · simp only [if_neg c, R]
        refine Ev.bind (fmt_ev x (by omega) (by omega)) (Ev_eq fun k => ?_)
        by_cases q : (tx (Lib.itoa x)).toList = s.toList
        · rw [if_pos q, if_pos q]
        · rw [if_neg q, if_neg q]
  | succ d ih =>
    intro i x hi h0 h1
    have hlt : i < s.data.toList.length := by omega
    have hp := pow10_le ⟨i, by omega⟩
    simp only at hp
    have hp1 : (10 : Int) ^ (i + 1) = 10 ^ i * 10 := Int.pow_succ ..
    generalize (10 : Int) ^ i = p at h1 hp hp1
    have hb := (s.data.toList[i]).toNat_lt
    rw [List.drop_eq_getElem_cons hlt, pv]
    generalize hB : s.data.toList[i] = b at hb
    by_cases c1 : b.toNat < 48
    · rw [if_pos c1]
      refine Ev_at1 fun k => ?_
      rw [spec_ParseUint.l0, if_pos (by omega), if_pos (by omega), bt_list s i hlt, hB, if_pos (by omega)]; rfl
    · rw [if_neg c1]
      by_cases c2 : 57 < b.toNat
      · rw [if_pos c2]
        refine Ev_at1 fun k => ?_
        rw [spec_ParseUint.l0, if_pos (by omega), if_pos (by omega), bt_list s i hlt, hB, if_neg (by omega), if_pos (by omega)]; rfl
      · rw [if_neg c2]
        refine Ev_round _ (fun k => ?_) (ih (i + 1) (10 * x + b.toNat - 48) (by omega) (by omega) (by rw [hp1]; omega))
        rw [spec_ParseUint.l0, if_pos (by omega), if_pos (by omega), bt_list s i hlt, hB, if_neg (by omega), if_neg (by omega), wrap_id (n := 10 * x) (by omega) (by omega), wrap_id (n := (b.toNat : Int)) (by omega) (by omega), wrap_id (n := 10 * x + b.toNat) (by omega) (by omega), wrap_id (n := 10 * x + b.toNat - 48) (by omega) (by omega), wrap_id (n := (i : Int) + 1) (by omega) (by omega)]
        rfl
theorem sparse_ev (s : ByteArray) (hs : s.data.toList.length ≤ 10) : Ev (fun k => spec_ParseUint.f k s) (R s (pv 0 s.data.toList)) := by
  have hz : (s.size : Int) = (s.data.toList.length : Int) := by rw [Lib.size_eq]
  have := parse_loop s hs s.data.toList.length 0 0 (by omega) (by omega) (by simp)
  rw [List.drop_zero] at this
  refine Ev.congr (fun k => ?_) this
  rw [spec_ParseUint.f, if_neg (by omega)]; rfl
theorem pv_nonneg : ∀ (l : List UInt8) (a v : Int), 0 ≤ a → pv a l = some v → 0 ≤ v
  | [], a, v, h, e => by simp only [pv, Option.some.injEq] at e; omega
  | c :: r, a, v, h, e => by
    rw [pv] at e
    by_cases c1 : c.toNat < 48
    · rw [if_pos c1] at e; simp at e
    · rw [if_neg c1] at e
      by_cases c2 : 57 < c.toNat
      · rw [if_pos c2] at e; simp at e
      · rw [if_neg c2] at e; exact pv_nonneg r _ v (by omega) e
theorem toList_tx (s : ByteArray) (v : Int) (h : (tx (Lib.itoa v)).toList = s.toList) : s = tx (Lib.itoa v) := by
  rw [Lib.toList_data, Lib.toList_data] at h
  rw [← Lib.mk_data s, ← h]
theorem wf_small {v : Int} (h0 : 0 ≤ v) (h1 : v ≤ 1000000000) : (Lit.int .i64 v).wf = true := by
  simp [Lit.wf, IntKind.min, IntKind.max, IntKind.signed, IntKind.bits]; omega
theorem main (s : ByteArray) (h0 : s.size ≤ 140737488351232) : ∃ k, laws_FnExactParseUint.f k s = some true := by
  refine Ev.rounds ?_
  unfold laws_FnExactParseUint.f
  by_cases hb : (s.size : Int) > 1048576
  · exact Ev_eq fun k => by rw [if_pos hb]
  · refine Ev.congr (fun k => by rw [if_neg hb]) ?_
    have hz : (s.size : Int) = (s.data.toList.length : Int) := by rw [Lib.size_eq]
    by_cases A : ∃ v : Int, 0 ≤ v ∧ v ≤ 1000000000 ∧ s = tx (Lib.itoa v)
    · obtain ⟨v, v0, v1, rfl⟩ := A
      have e : (tx (Lib.itoa v)).data.toList = Lib.itoa v := by simp [tx]
      have ei : Lib.itoa v = Lib.decDigits v.toNat := by rw [Lib.itoa, if_neg (by omega)]
      have hl : (Lib.itoa v).length ≤ 10 := by rw [ei]; exact dec_len 9 _ (by omega)
      have hp : pv 0 (Lib.itoa v) = some v := by
        have := pv_dec v.toNat []
        rw [List.append_nil] at this
        rw [ei, this, pv]; congr 1; omega
      have hs := sparse_ev (tx (Lib.itoa v)) (by rw [e]; exact hl)
      rw [e, hp, R, if_neg (by omega), if_pos rfl] at hs
      refine Ev.bind hs (Ev_eq fun k => ?_)
      rw [parse_fmt k v (wf_small v0 v1), if_pos ⟨v0, v1⟩]
      simp
    · have hi : ∀ k, impl_ParseUint.f k s = some (0, false) := by
        intro k
        rw [impl_ParseUint.f, if_pos (by omega)]
        cases hc : Lib.atoiAll s.data.toList with
        | ok v => simp only; rw [if_neg (fun q => A ⟨v, q.1, q.2.1, toList_tx s v q.2.2⟩)]
        | «syntax» => rfl
        | range => rfl
      by_cases c : (s.size : Int) > 10
      · exact Ev_eq fun k => by simp only [spec_ParseUint.f, if_pos c, hi, Option.bind_some]; simp
      · have hs := sparse_ev s (by omega)
        have hr : R s (pv 0 s.data.toList) = (0, false) := by
          cases hc : pv 0 s.data.toList with
          | none => rfl
          | some v =>
            have v0 := pv_nonneg _ 0 v (by omega) hc
            rw [R]
            by_cases c1 : v > 1000000000
            · rw [if_pos c1]
            · rw [if_neg c1, if_neg (fun q => A ⟨v, v0, by omega, toList_tx s v q⟩)]
        rw [hr] at hs
        refine Ev.bind hs (Ev_eq fun k => ?_)
        simp only [hi, Option.bind_some]; simp

end Go.Proofs.YtoaaldfciabahaaDoor.PureFnExactParseUint
