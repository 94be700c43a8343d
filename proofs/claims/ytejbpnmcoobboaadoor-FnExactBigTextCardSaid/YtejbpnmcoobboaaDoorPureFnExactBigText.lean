/- The law FnExactBigText returns true for all slices of whole numbers of 64 bits. -/
import Derived.Test.YtejbpnmcoobboaaDoorQFnExactBigTexty1
import Derived.Test.YtejbpnmcoobboaaDoorM0
import Derived.Test.YtejbpnmcoobboaaDoorMT
import Derived.Test.YtejbpnmcoobboaaDoorM1
namespace Go.Proofs.YtejbpnmcoobboaaDoor.PureFnExactBigText
open Go Go.RowKit Go.Proofs.YtejbpnmcoobboaaDoor.PFnExactBigText Go.Proofs.YtejbpnmcoobboaaDoor.My Go.Proofs.YtejbpnmcoobboaaDoorW.PrintWords Go.Proofs.YtejbpnmcoobboaaDoorW.PrintLast Go.Proofs.YtejbpnmcoobboaaDoorW.PrintMore
set_option linter.unusedVariables false
set_option linter.unusedSimpArgs false
theorem within_eq (a b c : Int) : impl_within.f a b c = some (decide (b ≤ a ∧ a ≤ c)) := by
  unfold impl_within.f
  by_cases h : b ≤ a <;> simp [h]
theorem l01In_eq (a b c : Int) : spec_l01In.f a b c = some (decide (b ≤ a ∧ a ≤ c)) := by
  unfold spec_l01In.f
  by_cases h : b ≤ a <;> simp [h]
theorem toIntS_loop (l : List Int) (hl : l.length ≤ 17592186044416) : ∀ (d i : Nat) (acc : List Int), acc.length = l.length → i + d = l.length → acc.take i = l.take i →
    Ev (fun k => laws_toIntS.l0 k l acc (i : Int)) l := by
  intro d
  induction d with
  | zero =>
    intro i acc ha hi ht
    refine Ev_at1 fun k => ?_
    simp only [laws_toIntS.l0]
    rw [if_neg (by omega)]
    rw [show i = l.length from by omega, ← ha, List.take_length, ha, List.take_length] at ht
    rw [ht]
  | succ d ih =>
    intro i acc ha hi ht
    refine Ev_round _ (fun k => ?_) (ih (i + 1) (acc.set i (rd l (i : Int))) (by simp [ha]) (by omega) ?_)
    · simp only [laws_toIntS.l0]
      rw [if_pos (by omega), if_pos (by omega), if_pos (by omega), wrap_id (by omega) (by omega)]
      simp
    · rw [take_snoc l i (by omega), List.take_succ_eq_append_getElem (by simp; omega), List.getElem_set_self, List.take_set_of_le (Nat.le_refl _), ht]
theorem toIntS_ev (l : List Int) (hl : l.length ≤ 17592186044416) : Ev (fun k => laws_toIntS.f k l) l := by
  refine Ev.congr (f := fun k => laws_toIntS.l0 k l (List.replicate l.length 0) ((0 : Nat) : Int)) (fun k => ?_) (toIntS_loop l hl l.length 0 _ (by simp) (by simp) (by simp))
  unfold laws_toIntS.f
  rw [if_pos (by omega), if_pos (by omega)]
  simp
theorem eqIntS_loop (l m : List Int) (hl : l.length ≤ 17592186044416) (hm : l.length = m.length) : ∀ (d i : Nat), i + d = l.length →
    Ev (fun k => laws_eqIntS.l0 k l m (i : Int)) (decide (l.drop i = m.drop i)) := by
  intro d
  induction d with
  | zero =>
    intro i hi
    refine Ev_at1 fun k => ?_
    simp only [laws_eqIntS.l0]
    rw [if_neg (by omega), List.drop_eq_nil_of_le (by omega), List.drop_eq_nil_of_le (by omega)]
    simp
  | succ d ih =>
    intro i hi
    rw [drop_cons l i (by omega), drop_cons m i (by omega)]
    by_cases h : rd l (i : Int) = rd m (i : Int)
    · refine Ev_round _ (fun k => ?_) (Ev.congr (fun k => rfl) (show Ev (fun k => laws_eqIntS.l0 k l m ((i + 1 : Nat) : Int)) _ from ?_))
      · simp only [laws_eqIntS.l0]
        rw [if_pos (by omega), if_pos (by omega), if_pos (by omega), if_pos h, wrap_id (by omega) (by omega)]
        rfl
      · have := ih (i + 1) (by omega)
        simpa [h] using this
    · refine Ev_at1 fun k => ?_
      simp only [laws_eqIntS.l0]
      rw [if_pos (by omega), if_pos (by omega), if_pos (by omega), if_neg h]
      simp [h]
theorem eqIntS_ev (l m : List Int) (hl : l.length ≤ 17592186044416) : Ev (fun k => laws_eqIntS.f k l m) (decide (l = m)) := by
  unfold laws_eqIntS.f
  by_cases h : l.length = m.length
  · refine Ev.congr (fun k => by rw [if_pos (by omega)]) ?_
    have := eqIntS_loop l m hl h l.length 0 (by simp)
    simpa using this
  · refine Ev_eq fun k => ?_
    rw [if_neg (by omega)]
    have : l ≠ m := fun e => h (by rw [e])
    simp [this]
theorem eqIntS_self (l : List Int) (hl : l.length ≤ 17592186044416) : Ev (fun k => laws_eqIntS.f k l l) true := by
  have := eqIntS_ev l l hl; simpa using this
/-- A row of groups that is a valid large number. -/
def Big (l : List Int) : Prop := Dig l ∧ l.length ≤ 120 ∧ (l.length = 0 ∨ rd l ((l.length : Int) - 1) ≠ 0)
instance (l : List Int) : Decidable (Big l) := by unfold Big; infer_instance
theorem Big_iff {l : List Int} : Big l ↔ Canon l ∧ l.length ≤ 120 := by
  unfold Big Canon
  constructor
  · rintro ⟨h1, h2, h3⟩
    refine ⟨⟨h1, ?_⟩, h2⟩
    by_cases hz : l.length = 0
    · rw [List.length_eq_zero_iff.1 hz]; exact Top_nil
    · exact Top_last (by omega) (h3.resolve_left hz)
  · rintro ⟨⟨h1, h2⟩, h3⟩
    refine ⟨h1, h3, ?_⟩
    by_cases hz : l.length = 0
    · exact .inl hz
    · have hne : l ≠ [] := List.length_pos_iff.1 (by omega)
      right
      rw [rd_last l hne]
      intro e
      apply h2
      rw [List.getLast?_eq_some_getLast hne, e]
theorem sBigOk_end (l : List Int) (hl : l.length ≤ 17592186044416) (hd : Dig l) (k : Nat) : spec_BigOk.l0 (k + 1) l (l.length : Int) = some (decide (Big l)) := by
  simp only [spec_BigOk.l0]
  rw [if_neg (by omega)]
  by_cases h1 : l.length ≤ 120
  · rw [if_pos (by omega)]
    by_cases h2 : l.length = 0
    · rw [if_pos (by omega)]; simp [Big, hd, h1, h2]
    · rw [if_neg (by omega), wrap_id (by omega) (by omega), if_pos (by omega), if_pos (by omega)]
      simp only [Big, hd, h1, h2, true_and, false_or, Option.some.injEq]
      rw [Bool.eq_iff_iff]; simp
  · rw [if_neg (by omega)]; simp [Big, h1]
theorem sBigOk_loop (l : List Int) (hl : l.length ≤ 17592186044416) : ∀ (d i : Nat), i + d = l.length → Dig (l.take i) →
    Ev (fun k => spec_BigOk.l0 k l (i : Int)) (decide (Big l)) := by
  intro d
  induction d with
  | zero =>
    intro i hi hd
    refine Ev_at1 fun k => ?_
    rw [show i = l.length from by omega]
    exact sBigOk_end l hl (by rw [show i = l.length from by omega, List.take_length] at hd; exact hd) k
  | succ d ih =>
    intro i hi hd
    by_cases h : 0 ≤ rd l (i : Int) ∧ rd l (i : Int) ≤ 9999
    · refine Ev_round _ (fun k => ?_) (ih (i + 1) (by omega) ?_)
      · simp only [spec_BigOk.l0]
        rw [if_pos (by omega), if_pos (by omega), l01In_eq, Option.bind_some, if_pos (by simpa using h), wrap_id (by omega) (by omega)]
        simp
      · rw [take_snoc l i (by omega)]
        intro x hx
        rcases List.mem_append.1 hx with hx | hx
        · exact hd x hx
        · rw [List.mem_singleton.1 hx]; exact h
    · refine Ev_at1 fun k => ?_
      simp only [spec_BigOk.l0]
      rw [if_pos (by omega), if_pos (by omega), l01In_eq, Option.bind_some, if_neg (by simpa using h)]
      have : ¬ Big l := fun hb => h (hb.1 _ (rd_mem l _ (by omega) (by omega)))
      simp [this]
theorem sBigOk_ev (l : List Int) (hl : l.length ≤ 17592186044416) : Ev (fun k => spec_BigOk.f k l) (decide (Big l)) := by
  unfold spec_BigOk.f
  exact sBigOk_loop l hl l.length 0 (by simp) (by simp [Dig])
theorem iBigOk_end (l : List Int) (hl : l.length ≤ 17592186044416) (hd : Dig l) (k : Nat) : impl_BigOk.l0 (k + 1) l l (l.length : Int) (l.length : Int) = some (decide (Big l)) := by
  simp only [impl_BigOk.l0]
  rw [if_neg (by omega)]
  by_cases h1 : l.length ≤ 120
  · rw [if_pos (by omega)]
    by_cases h2 : l.length = 0
    · rw [if_pos (by omega)]; simp [Big, hd, h1, h2]
    · rw [if_neg (by omega), wrap_id (by omega) (by omega), if_pos (by omega), if_pos (by omega)]
      simp only [Big, hd, h1, h2, true_and, false_or, Option.some.injEq]
      rw [Bool.eq_iff_iff]; simp
  · rw [if_neg (by omega)]; simp [Big, h1]
theorem iBigOk_loop (l : List Int) (hl : l.length ≤ 17592186044416) : ∀ (d i : Nat), i + d = l.length → Dig (l.take i) →
    Ev (fun k => impl_BigOk.l0 k l l (l.length : Int) (i : Int)) (decide (Big l)) := by
  intro d
  induction d with
  | zero =>
    intro i hi hd
    refine Ev_at1 fun k => ?_
    rw [show i = l.length from by omega]
    exact iBigOk_end l hl (by rw [show i = l.length from by omega, List.take_length] at hd; exact hd) k
  | succ d ih =>
    intro i hi hd
    by_cases h : 0 ≤ rd l (i : Int) ∧ rd l (i : Int) ≤ 9999
    · refine Ev_round _ (fun k => ?_) (ih (i + 1) (by omega) ?_)
      · simp only [impl_BigOk.l0]
        rw [if_pos (by omega), if_pos (by omega), if_pos (by omega), within_eq, Option.bind_some, if_pos (by simpa using h), wrap_id (by omega) (by omega)]
        simp
      · rw [take_snoc l i (by omega)]
        intro x hx
        rcases List.mem_append.1 hx with hx | hx
        · exact hd x hx
        · rw [List.mem_singleton.1 hx]; exact h
    · refine Ev_at1 fun k => ?_
      simp only [impl_BigOk.l0]
      rw [if_pos (by omega), if_pos (by omega), if_pos (by omega), within_eq, Option.bind_some, if_neg (by simpa using h)]
      have : ¬ Big l := fun hb => h (hb.1 _ (rd_mem l _ (by omega) (by omega)))
      simp [this]
theorem iBigOk_ev (l : List Int) (hl : l.length ≤ 17592186044416) : Ev (fun k => impl_BigOk.f k l) (decide (Big l)) := by
  unfold impl_BigOk.f
  exact iBigOk_loop l hl l.length 0 (by simp) (by simp [Dig])
/-! spec.FormatInt writes the decimal numeral. -/
theorem figure_eq {d : Int} (h0 : 0 ≤ d) (h : d < 10) : spec_l01Figure.f d = some (48 + d) := by
  simp only [spec_l01Figure.f, if_pos h]; congr 1; unfold wrap64; omega
theorem strDig (u : Nat) : strOfNums [48 + ((u % 10 : Nat) : Int)] = tx [UInt8.ofNat (48 + u % 10)] := by
  have : (48 + ((u % 10 : Nat) : Int)).toNat = 48 + u % 10 := by omega
  simp only [strOfNums, tx, List.map_cons, List.map_nil, this]
theorem fmt_round (k : Nat) (x : Int) (b : Bool) (acc : ByteArray) (h1 : -9223372036854775808 ≤ x) (h2 : x ≤ 9223372036854775807) (h0 : x ≠ 0) (hs : acc.size ≤ 1000) :
    spec_FormatInt.l0 (k + 1) x b acc = spec_FormatInt.l0 k (Int.tdiv x 10) b (tx [UInt8.ofNat (48 + x.natAbs % 10)] ++ acc) := by
  rw [spec_FormatInt.l0, if_neg h0]
  have hd : wrap64 (Int.tdiv x 10) = Int.tdiv x 10 := by
    rcases Int.le_total 0 x with p | p
    · rw [Int.tdiv_eq_ediv_of_nonneg p]; apply wrap_id <;> omega
    · obtain ⟨y, rfl⟩ : ∃ y, x = -y := ⟨-x, by omega⟩
      rw [Int.neg_tdiv, Int.tdiv_eq_ediv_of_nonneg (by omega)]; apply wrap_id <;> omega
  have size1 : ∀ d : UInt8, (tx [d]).size = 1 := fun d => by simp [tx_size]
  rcases Int.lt_or_le x 0 with p | p
  · obtain ⟨y, rfl⟩ : ∃ y : Nat, x = -(y : Int) := ⟨x.natAbs, by omega⟩
    have hm : Int.tmod (-(y : Int)) 10 = -((y % 10 : Nat) : Int) := by rw [Int.neg_tmod, Int.tmod_eq_emod_of_nonneg (by omega)]; rfl
    rw [hm, hd, show (-(y : Int)).natAbs = y by omega]
    by_cases c : -((y % 10 : Nat) : Int) < 0
    · rw [if_pos c, show wrap64 (-(-((y % 10 : Nat) : Int))) = ((y % 10 : Nat) : Int) by rw [Int.neg_neg]; apply wrap_id <;> omega, figure_eq (by omega) (by omega)]
      simp only [Option.bind_some, strDig, size1]
      rw [if_pos (by omega)]
    · rw [if_neg c]
      have e : y % 10 = 0 := by omega
      rw [e]
      simp only [Int.ofNat_zero, Int.neg_zero, figure_eq (d := 0) (by omega) (by omega), Option.bind_some]
      have := strDig 0
      simp only [Nat.zero_mod, Int.natCast_zero] at this
      simp only [Int.cast_ofNat_Int, Int.natCast_zero, Int.neg_zero, figure_eq (d := 0) (by omega) (by omega), Option.bind_some, this, size1]
      rw [if_pos (by omega)]
  · obtain ⟨y, rfl⟩ : ∃ y : Nat, x = (y : Int) := ⟨x.natAbs, by omega⟩
    have hm : Int.tmod (y : Int) 10 = ((y % 10 : Nat) : Int) := by rw [Int.tmod_eq_emod_of_nonneg (by omega)]; rfl
    rw [hm, hd, show ((y : Int)).natAbs = y by omega, if_neg (by omega), figure_eq (by omega) (by omega)]
    simp only [Option.bind_some, strDig, size1]
    rw [if_pos (by omega)]
def fin (b : Bool) (s : ByteArray) : ByteArray := if b = true then tx [45] ++ s else s
theorem fmt_loop (b : Bool) (u : Nat) : ∀ (x : Int) (acc : ByteArray), x.natAbs = u → x ≠ 0 → -9223372036854775808 ≤ x → x ≤ 9223372036854775807 → acc.size + (Lib.decDigits u).length ≤ 900 →
    Ev (fun k => spec_FormatInt.l0 k x b acc) (fin b (tx (Lib.decDigits u) ++ acc)) := by
  induction u using Nat.strongRecOn with
  | _ u ih =>
    intro x acc hu h0 h1 h2 hs
    refine Ev_round _ (fun k => fmt_round k x b acc h1 h2 h0 (by omega)) ?_
    rw [hu]
    have hq : (Int.tdiv x 10).natAbs = u / 10 := by
      rw [Int.natAbs_tdiv, hu]; rfl
    by_cases c : u < 10
    · have hz : Int.tdiv x 10 = 0 := by have : u / 10 = 0 := by omega
                                        rw [this] at hq; omega
      rw [hz, show Lib.decDigits u = [UInt8.ofNat (48 + u % 10)] by rw [Lib.decDigits, dif_pos c, Nat.mod_eq_of_lt c]]
      refine Ev_at1 fun k => ?_
      have hl : (tx [UInt8.ofNat (48 + u % 10)] ++ acc).size = 1 + acc.size := by simp [tx_size]
      rw [spec_FormatInt.l0, if_pos rfl, hl]
      cases b
      · simp [fin]
      · rw [if_pos rfl, if_pos (by omega)]; rfl
    · have hlen : (Lib.decDigits u).length = (Lib.decDigits (u / 10)).length + 1 := by rw [Lib.decDigits, dif_neg c]; simp
      have hl : (tx [UInt8.ofNat (48 + u % 10)] ++ acc).size = 1 + acc.size := by simp [tx_size]
      have hx : -9223372036854775808 ≤ Int.tdiv x 10 ∧ Int.tdiv x 10 ≤ 9223372036854775807 := by omega
      have := ih (u / 10) (by omega) (Int.tdiv x 10) (tx [UInt8.ofNat (48 + u % 10)] ++ acc) hq (by omega) hx.1 hx.2 (by omega)
      rw [← ByteArray.append_assoc, tx_append] at this
      rwa [show Lib.decDigits u = Lib.decDigits (u / 10) ++ [UInt8.ofNat (48 + u % 10)] by rw [Lib.decDigits, dif_neg c]]
theorem fmt_ev (n : Int) (h1 : -9223372036854775808 ≤ n) (h2 : n ≤ 9223372036854775807) : Ev (fun k => spec_FormatInt.f k n) (tx (Lib.itoa n)) := by
  by_cases c : n = 0
  · subst c
    refine Ev_eq fun k => ?_
    simp only [spec_FormatInt.f, if_pos rfl]
    rw [show Lib.itoa 0 = [48] by rw [Lib.itoa, if_neg (by omega), Lib.decDigits]; rfl]; rfl
  · simp only [spec_FormatInt.f, if_neg c]
    have := fmt_loop (decide (n < 0)) n.natAbs n ⟨#[]⟩ rfl c h1 h2 (by have := decDigits_len (u := n.natAbs) (by omega); simp [ByteArray.size]; omega)
    have e : fin (decide (n < 0)) (tx (Lib.decDigits n.natAbs) ++ (⟨#[]⟩ : ByteArray)) = tx (Lib.itoa n) := by
      have e0 : tx (Lib.decDigits n.natAbs) ++ (⟨#[]⟩ : ByteArray) = tx (Lib.decDigits n.natAbs) := by
        rw [show (⟨#[]⟩ : ByteArray) = tx [] from rfl, tx_append]; simp
      rw [e0, fin, Lib.itoa]
      by_cases p : n < 0
      · rw [if_pos (by simpa using p), if_pos p, tx_append]; rfl
      · rw [if_neg (by simpa using p), if_neg p, show n.natAbs = n.toNat by omega]
    rwa [e] at this
/-! The text of a large number: the top group's numeral, then four figures a group. -/
theorem itoa_len_le (n : Int) (h1 : -9223372036854775808 ≤ n) (h2 : n ≤ 9223372036854775807) : (Lib.itoa n).length ≤ 21 := by
  unfold Lib.itoa
  split
  · have := decDigits_len (u := n.natAbs) (by omega); simp; omega
  · have := decDigits_len (u := n.toNat) (by omega); omega
theorem wf_of_bd {n : Int} (h1 : -9223372036854775808 ≤ n) (h2 : n ≤ 9223372036854775807) : (Lit.int .i64 n).wf = true := by
  simp [Lit.wf, IntKind.min, IntKind.max, IntKind.signed, IntKind.bits]; omega
theorem txt_len (l : List Int) (hl : l.length ≤ 17592186044416) (h : ∀ i : Int, -9223372036854775808 ≤ rd l i ∧ rd l i ≤ 9223372036854775807) : ∀ m, (impl_BigText.txt l m).length ≤ 21 * (m + 1)
  | 0 => by rw [impl_BigText.txt]; exact itoa_len_le _ (h _).1 (h _).2
  | m + 1 => by
    rw [impl_BigText.txt, List.length_append, List.length_drop]
    have h1 := txt_len l hl h m
    have h2 := itoa_len_le (wrap64 (10000 + rd l (((l.length : Int) - 2) - m))) (wrap_bd _).1 (wrap_bd _).2
    omega
theorem rd_bd {l : List Int} (hd : Dig l) (i : Int) : -9223372036854775808 ≤ rd l i ∧ rd l i ≤ 9223372036854775807 := by
  by_cases h : i.toNat < l.length
  · have hm : rd l i ∈ l := by
      have e : rd l i = rd l (i.toNat : Int) := by unfold rd; rw [Int.toNat_natCast]
      rw [e]; exact rd_mem l _ (by omega) (by omega)
    have := hd _ hm; omega
  · have e : rd l i = 0 := by unfold rd; rw [List.getD_eq_getElem?_getD, List.getElem?_eq_none (by omega)]; rfl
    rw [e]; omega
/-- What both functions write for a valid large number. -/
def bigTx (l : List Int) : ByteArray := if Big l then (if l.length = 0 then ⟨#[48]⟩ else tx (impl_BigText.txt l (l.length - 1))) else ⟨#[]⟩
theorem ibig_ev (l : List Int) (hl : l.length ≤ 17592186044416) : Ev (fun k => impl_BigText.f k l) (bigTx l) := by
  unfold impl_BigText.f
  refine Ev.bind (iBigOk_ev l hl) (Ev_eq fun k => ?_)
  by_cases hb : Big l
  · rw [if_pos (by simpa using hb)]
    by_cases hz : l.length = 0
    · rw [if_pos (by omega)]; simp [bigTx, hb, hz]
    · have ht := rd_bd hb.1 (wrap64 ((l.length : Int) - 1))
      have hx := txt_len l hl (rd_bd hb.1) (l.length - 1)
      have h120 := hb.2.1
      rw [if_neg (by omega), if_pos ⟨by simp only [impl_BigText.top]; exact wf_of_bd ht.1 ht.2, by omega, by omega⟩]
      simp only [bigTx, if_pos hb, if_neg hz]; rfl
  · rw [if_neg (by simpa using hb)]; simp [bigTx, hb]
theorem sbig_loop (l : List Int) (hl : l.length ≤ 120) (hd : Dig l) : ∀ (d j : Nat), j + 1 + d = l.length →
    Ev (fun k => spec_BigText.l0 k l (tx (impl_BigText.txt l j)) ((l.length : Int) - 2 - j)) (tx (impl_BigText.txt l (l.length - 1))) := by
  intro d
  induction d with
  | zero =>
    intro j hj
    refine Ev_at1 fun k => ?_
    rw [spec_BigText.l0, if_neg (by omega), show l.length - 1 = j by omega]
  | succ d ih =>
    intro j hj
    have h1 := itoa_pos (wrap64 (10000 + rd l ((l.length : Int) - 2 - j)))
    have hx := txt_len l (by omega) (rd_bd hd) j
    have h2 := itoa_len_le (wrap64 (10000 + rd l ((l.length : Int) - 2 - j))) (wrap_bd _).1 (wrap_bd _).2
    refine Ev_round (fun k => (spec_FormatInt.f k (wrap64 (10000 + (rd l ((l.length : Int) - 2 - j))))).bind fun t116 => (if 1 ≤ (t116.size : Int) then (if (tx (impl_BigText.txt l j)).size + (t116.extract 1 t116.size).size ≤ 9223372036854775807 then (spec_BigText.l0 k l (tx (impl_BigText.txt l j) ++ (t116.extract 1 t116.size)) (wrap64 (((l.length : Int) - 2 - j) - 1))) else (none)) else (none))) (fun k => by
      rw [spec_BigText.l0, if_pos (by omega), if_pos (by omega), if_pos (by omega)]) ?_
    refine Ev.bind (fmt_ev _ (wrap_bd _).1 (wrap_bd _).2) ?_
    have e1 : (tx (Lib.itoa (wrap64 (10000 + rd l ((l.length : Int) - 2 - j))))).extract 1 (tx (Lib.itoa (wrap64 (10000 + rd l ((l.length : Int) - 2 - j))))).size = tx ((Lib.itoa (wrap64 (10000 + rd l ((l.length : Int) - 2 - j)))).drop 1) := by
      rw [tx_size]; exact ext_one _
    rw [e1]
    refine Ev.congr (fun k => ?_) (ih (j + 1) (by omega))
    rw [if_pos (by rw [tx_size]; omega), if_pos (by rw [tx_size, tx_size, List.length_drop]; omega), tx_append, wrap_id (n := (l.length : Int) - 2 - j - 1) (by omega) (by omega)]
    rw [show impl_BigText.txt l (j + 1) = impl_BigText.txt l j ++ (Lib.itoa (wrap64 (10000 + rd l ((l.length : Int) - 2 - j)))).drop 1 from rfl]
    rw [show (l.length : Int) - 2 - j - 1 = (l.length : Int) - 2 - ((j + 1 : Nat) : Int) by omega]
theorem sbig_ev (l : List Int) (hl : l.length ≤ 17592186044416) : Ev (fun k => spec_BigText.f k l) (bigTx l) := by
  unfold spec_BigText.f
  refine Ev.bind (sBigOk_ev l hl) ?_
  by_cases hb : Big l
  · refine Ev.congr (fun k => if_pos (by simpa using hb)) ?_
    by_cases hz : l.length = 0
    · refine Ev_eq fun k => ?_
      rw [if_pos (by omega)]; simp [bigTx, hb, hz]
    · have h120 := hb.2.1
      refine Ev.congr (fun k => by rw [if_neg (by omega), wrap_id (by omega) (by omega), if_pos (by omega), if_pos (by omega), wrap_id (n := (l.length : Int) - 2) (by omega) (by omega)]) ?_
      have ht := rd_bd hb.1 ((l.length : Int) - 1)
      refine Ev.bind (fmt_ev _ ht.1 ht.2) ?_
      have e : tx (Lib.itoa (rd l ((l.length : Int) - 1))) = tx (impl_BigText.txt l 0) := by
        rw [impl_BigText.txt, impl_BigText.top, wrap_id (by omega) (by omega)]
      rw [e]
      have := sbig_loop l h120 hb.1 (l.length - 1) 0 (by omega)
      rw [show ((l.length : Int) - 2 - ((0 : Nat) : Int)) = (l.length : Int) - 2 by omega] at this
      simpa only [bigTx, if_pos hb, if_neg hz] using this
  · refine Ev.congr (fun k => if_neg (by simpa using hb)) (Ev_eq fun k => ?_)
    simp [bigTx, hb]
theorem main : laws_FnExactBigText.Pure := by
  intro l hl1 hl2 hl3
  refine Ev.rounds ?_
  unfold laws_FnExactBigText.f
  by_cases hb : (l.length : Int) > 1048576
  · exact Ev_eq fun k => by rw [if_pos hb]
  · refine Ev.congr (fun k => by rw [if_neg hb]) ?_
    have hl : l.length ≤ 17592186044416 := by omega
    refine Ev.bind (toIntS_ev l hl) (Ev.bind (sbig_ev l hl) (Ev.bind (toIntS_ev l hl) (Ev.bind (ibig_ev l hl) ?_)))
    refine Ev.congr (fun k => by rw [if_pos rfl]) (Ev.bind (toIntS_ev l hl) (Ev.bind (eqIntS_self l hl) (Ev_eq fun k => if_pos rfl)))

end Go.Proofs.YtejbpnmcoobboaaDoor.PureFnExactBigText
