/- The law FnExactDecodeHex returns true for all texts of less than 2^47 bytes. -/
import Derived.Test.YtoaaldfciabahaaDoorQFnExactDecodeHexy1
import Derived.Test.YtoaaldfciabahaaDoorM0
namespace Go.Proofs.YtoaaldfciabahaaDoor.PureFnExactDecodeHex
open Go Go.RowKit Go.Proofs.YtoaaldfciabahaaDoor.PFnExactDecodeHex Go.Proofs.YtoaaldfciabahaaDoor.My Go.Proofs.YtoaaldfciabahaaDoorW.PrintWords Go.Proofs.YtoaaldfciabahaaDoorW.PrintLast Go.Proofs.YtoaaldfciabahaaDoorW.PrintMore
set_option linter.unusedVariables false
set_option linter.unusedSimpArgs false
/-! Hexadecimal text, written and read. -/
theorem v_dig : ∀ d : Fin 16, Lib.Hx.v (Lib.Hx.digit d.val) = d.val := by decide +kernel
theorem decode_encode (D : List UInt8) : Lib.Hx.decode (Lib.Hx.encode D) = (D, .ok) := by
  induction D with
  | nil => rw [show Lib.Hx.encode [] = [] from rfl, Lib.Hx.decode_nil]
  | cons a t ih =>
    have ha := a.toNat_lt
    have h1 := v_dig ⟨a.toNat / 16, by omega⟩
    have h2 := v_dig ⟨a.toNat % 16, by omega⟩
    simp only at h1 h2
    rw [Lib.Hx.encode_cons, Lib.Hx.decode_two, h1, h2, if_neg (by omega), if_neg (by omega), ih]
    simp only
    congr 2
    rw [show a.toNat / 16 * 16 + a.toNat % 16 = a.toNat by omega]; simp
theorem idec_ok (k : Nat) (s : ByteArray) (D : List UInt8) (h : s.data.toList = Lib.Hx.encode D) (hD : D.length ≤ 20000) : impl_DecodeHex.f k s = some (⟨D.toArray⟩, true) := by
  have hl := Lib.Hx.encode_length D
  have hz : s.size = s.data.toList.length := Lib.size_eq s
  rw [impl_DecodeHex.f, if_pos (by rw [hz, h]; omega), h, decode_encode]
  simp only
  rw [if_pos ⟨hD, by rw [Lib.toList_data, h]⟩]
theorem idec_no (k : Nat) (s : ByteArray) (hs : s.size ≤ 281474976710656) (h : ¬ ∃ D, s.data.toList = Lib.Hx.encode D ∧ D.length ≤ 20000) : impl_DecodeHex.f k s = some ((⟨#[]⟩ : ByteArray), false) := by
  rw [impl_DecodeHex.f, if_pos hs]
  cases hc : (Lib.Hx.decode s.data.toList).2 with
  | ok => simp only; rw [if_neg (fun q => h ⟨_, (Lib.toList_data s).symm.trans q.2.symm, q.1⟩)]
  | bad c => rfl
  | odd => rfl
/-! spec.DecodeHex. -/
def lw (c : UInt8) : Int := if 48 ≤ c.toNat ∧ c.toNat ≤ 57 then (c.toNat : Int) - 48 else if 97 ≤ c.toNat ∧ c.toNat ≤ 102 then (c.toNat : Int) - 87 else -1
theorem lw_bd (c : UInt8) : -1 ≤ lw c ∧ lw c ≤ 15 := by
  unfold lw; split
  · omega
  · split <;> omega
theorem val_at (k : Nat) (c : UInt8) : spec_l01Value.f (k + 1) (c.toNat : Int) = some (lw c) := by
  have hc := c.toNat_lt
  unfold spec_l01Value.f lw
  by_cases h1 : (48 : Int) ≤ c.toNat
  · rw [if_pos h1]
    by_cases h2 : (c.toNat : Int) ≤ 57
    · rw [if_pos (by omega), decide_eq_true h2, spec_l01Value.j0, if_pos rfl, wrap_id (n := (c.toNat : Int)) (by omega) (by omega), wrap_id (by omega) (by omega)]
    · rw [if_neg (by omega), decide_eq_false h2, spec_l01Value.j0, if_neg (by simp)]
      by_cases h3 : (97 : Int) ≤ c.toNat
      · rw [if_pos h3]
        by_cases h4 : (c.toNat : Int) ≤ 102
        · rw [if_pos h4, if_pos (by omega), wrap_id (n := (c.toNat : Int)) (by omega) (by omega), wrap_id (n := (c.toNat : Int) - 97) (by omega) (by omega), wrap_id (by omega) (by omega)]
          congr 1; omega
        · rw [if_neg h4, if_neg (by omega)]
      · rw [if_neg h3, if_neg (by omega)]
  · rw [if_neg h1, spec_l01Value.j0, if_neg (by simp), if_neg (by omega), if_neg (by omega), if_neg (by omega)]
def pd : List UInt8 → Option (List UInt8)
  | [] => some []
  | [_] => none
  | p :: q :: t => if lw p < 0 then none else if lw q < 0 then none else (pd t).map fun D => UInt8.ofNat (16 * lw p + lw q).toNat :: D
theorem lw_dig : ∀ c : Fin 256, 0 ≤ lw (UInt8.ofNat c.val) → Lib.Hx.digit (lw (UInt8.ofNat c.val)).toNat = UInt8.ofNat c.val := by decide +kernel
theorem lw_digit (c : UInt8) (h : 0 ≤ lw c) : Lib.Hx.digit (lw c).toNat = c := by
  have := lw_dig ⟨c.toNat, c.toNat_lt⟩
  simp only [UInt8.ofNat_toNat] at this
  exact this h
theorem pd_enc : ∀ (n : Nat) (l D : List UInt8), l.length ≤ n → pd l = some D → l = Lib.Hx.encode D := by
  intro n
  induction n with
  | zero =>
    intro l D hl h
    have : l = [] := List.eq_nil_of_length_eq_zero (by omega)
    subst this
    simp only [pd, Option.some.injEq] at h; subst h; rfl
  | succ n ih =>
    intro l D hl h
    match l with
    | [] => simp only [pd, Option.some.injEq] at h; subst h; rfl
    | [_] => simp [pd] at h
    | p :: q :: t =>
      rw [pd] at h
      by_cases h1 : lw p < 0
      · rw [if_pos h1] at h; simp at h
      · rw [if_neg h1] at h
        by_cases h2 : lw q < 0
        · rw [if_pos h2] at h; simp at h
        · rw [if_neg h2] at h
          obtain ⟨D', e, rfl⟩ := Option.map_eq_some_iff.mp h
          have hp := lw_bd p; have hq := lw_bd q
          have hb : (UInt8.ofNat (16 * lw p + lw q).toNat).toNat = (16 * lw p + lw q).toNat := by rw [UInt8.toNat_ofNat']; omega
          rw [Lib.Hx.encode_cons, hb, show (16 * lw p + lw q).toNat / 16 = (lw p).toNat by omega, show (16 * lw p + lw q).toNat % 16 = (lw q).toNat by omega, lw_digit p (by omega), lw_digit q (by omega), ← ih t D' (by simp at hl; omega) e]
theorem lw_of_dig : ∀ d : Fin 16, lw (Lib.Hx.digit d.val) = (d.val : Int) := by decide +kernel
theorem enc_pd (D : List UInt8) : pd (Lib.Hx.encode D) = some D := by
  induction D with
  | nil => rfl
  | cons a t ih =>
    have ha := a.toNat_lt
    have h1 := lw_of_dig ⟨a.toNat / 16, by omega⟩
    have h2 := lw_of_dig ⟨a.toNat % 16, by omega⟩
    simp only at h1 h2
    rw [Lib.Hx.encode_cons, pd, h1, h2, if_neg (by omega), if_neg (by omega), ih]
    simp only [Option.map_some, Option.some.injEq]
    congr 1
    rw [show (16 * ((a.toNat / 16 : Nat) : Int) + ((a.toNat % 16 : Nat) : Int)).toNat = a.toNat by omega]; simp
theorem bt_list (s : ByteArray) (i : Nat) (h : i < s.data.toList.length) : bt s (i : Int) = ((s.data.toList[i]).toNat : Int) := by
  have hs : i < s.size := by rw [Lib.size_eq]; exact h
  rw [bt, dif_pos (by simpa using hs)]
  simp; rfl
theorem Ev_shift {α : Type} {g : Nat → Option α} {r : α} (h : Ev g r) : Ev (fun k => g (k + 1)) r := by
  obtain ⟨K, h⟩ := h; exact ⟨K, fun k hk => h (k + 1) (by omega)⟩
def fin (acc : List Int) : Option (List UInt8) → ByteArray × Bool
  | none => ((⟨#[]⟩ : ByteArray), false)
  | some D => (strOfNums (acc ++ numsOf D), true)
theorem l0_step (k : Nat) (s : ByteArray) (acc : List Int) (i : Nat) (p q : UInt8) (h0 : (i : Int) < (s.size : Int)) (h1 : ((i + 1 : Nat) : Int) < (s.size : Int)) (hs : s.size ≤ 40000) (ha : acc.length < 140737488355328)
    (e0 : bt s (i : Int) = (p.toNat : Int)) (e1 : bt s ((i + 1 : Nat) : Int) = (q.toNat : Int)) :
    spec_DecodeHex.l0 (k + 1 + 1) s acc (i : Int) = if lw p < 0 then some ((⟨#[]⟩ : ByteArray), false) else if lw q < 0 then some ((⟨#[]⟩ : ByteArray), false) else spec_DecodeHex.l0 (k + 1) s (acc ++ [(wrap64 ((wrap64 (16 * lw p)) + lw q)) % 256]) (wrap64 ((i : Int) + 2)) := by
  have hB : (0 : Int) ≤ (i : Int) := Int.natCast_nonneg _
  have wi : wrap64 ((i : Int) + 1) = ((i + 1 : Nat) : Int) := by rw [wrap_id (by omega) (by omega)]; rfl
  have hC : (0 : Int) ≤ ((i + 1 : Nat) : Int) := Int.natCast_nonneg _
  rw [spec_DecodeHex.l0]
  simp only [wi, e0, e1, val_at, Option.bind_some, if_pos h0, if_pos hB, if_pos h1, if_pos hC, if_pos ha]
theorem sum16 {x y : Int} (hx : 0 ≤ x ∧ x ≤ 15) (hy : 0 ≤ y ∧ y ≤ 15) : (wrap64 ((wrap64 (16 * x)) + y)) % 256 = ((UInt8.ofNat (16 * x + y).toNat).toNat : Int) := by
  have hb : ((UInt8.ofNat (16 * x + y).toNat).toNat : Int) = 16 * x + y := by rw [UInt8.toNat_ofNat']; omega
  rw [wrap_id (n := 16 * x) (by omega) (by omega), wrap_id (by omega) (by omega), hb]; omega
theorem dec_loop (s : ByteArray) (hs : s.size ≤ 40000) : ∀ (d i : Nat) (acc : List Int), i + 2 * d = s.data.toList.length → acc.length ≤ i →
    Ev (fun k => spec_DecodeHex.l0 k s acc (i : Int)) (fin acc (pd (s.data.toList.drop i))) := by
  have hz : s.size = s.data.toList.length := Lib.size_eq s
  intro d
  induction d with
  | zero =>
    intro i acc hi ha
    rw [List.drop_of_length_le (by omega), pd, fin]
    refine Ev_at1 fun k => ?_
    rw [spec_DecodeHex.l0, if_neg (by omega)]; simp [numsOf]
  | succ d ih =>
    intro i acc hi ha
    have h0 : i < s.data.toList.length := by omega
    have h1 : i + 1 < s.data.toList.length := by omega
    have e0 := bt_list s i h0
    have e1 := bt_list s (i + 1) h1
    rw [List.drop_eq_getElem_cons h0, List.drop_eq_getElem_cons h1]
    generalize s.data.toList[i] = p at e0 ⊢
    generalize s.data.toList[i + 1] = q at e1 ⊢
    have step := fun k => l0_step k s acc i p q (by omega) (by omega) hs (by omega) e0 e1
    have shift : ∀ r, Ev (fun k => spec_DecodeHex.l0 (k + 1 + 1) s acc (i : Int)) r → Ev (fun k => spec_DecodeHex.l0 k s acc (i : Int)) r := by
      intro r ⟨K, h⟩
      exact ⟨K + 2, fun k hk => by obtain ⟨j, rfl⟩ : ∃ j, k = j + 1 + 1 := ⟨k - 2, by omega⟩; exact h j (by omega)⟩
    refine shift _ ?_
    rw [pd]
    have hp := lw_bd p
    have hq := lw_bd q
    by_cases c1 : lw p < 0
    · rw [if_pos c1]
      exact Ev_eq fun k => by rw [step, if_pos c1]; rfl
    · rw [if_neg c1]
      by_cases c2 : lw q < 0
      · rw [if_pos c2]
        exact Ev_eq fun k => by rw [step, if_neg c1, if_pos c2]; rfl
      · rw [if_neg c2]
        have this := ih (i + 2) (acc ++ [((UInt8.ofNat (16 * lw p + lw q).toNat).toNat : Int)]) (by omega) (by simp; omega)
        have hf : fin acc ((pd (s.data.toList.drop (i + 1 + 1))).map fun D => UInt8.ofNat (16 * lw p + lw q).toNat :: D) = fin (acc ++ [((UInt8.ofNat (16 * lw p + lw q).toNat).toNat : Int)]) (pd (s.data.toList.drop (i + 2))) := by
          cases pd (s.data.toList.drop (i + 2)) with
          | none => rfl
          | some D => simp [fin, numsOf]
        rw [hf]
        refine Ev.congr (fun k => ?_) (Ev_shift this)
        rw [step, if_neg c1, if_neg c2, sum16 ⟨by omega, hp.2⟩ ⟨by omega, hq.2⟩, wrap_id (n := (i : Int) + 2) (by omega) (by omega)]
        rfl
theorem main (s : ByteArray) (h0 : s.size ≤ 140737488351232) : ∃ k, laws_FnExactDecodeHex.f k s = some true := by
  refine Ev.rounds ?_
  unfold laws_FnExactDecodeHex.f
  by_cases hb : (s.size : Int) > 1048576
  · exact Ev_eq fun k => by rw [if_pos hb]
  · refine Ev.congr (fun k => by rw [if_neg hb]) ?_
    have hz : (s.size : Int) = (s.data.toList.length : Int) := by rw [Lib.size_eq]
    have bad : (¬ ∃ D, s.data.toList = Lib.Hx.encode D ∧ D.length ≤ 20000) → Ev (fun k => spec_DecodeHex.f k s) ((⟨#[]⟩ : ByteArray), false) →
        Ev (fun k => (spec_DecodeHex.f k s).bind fun bt117 => ((impl_DecodeHex.f k s).bind fun bt119 => (if bt119.1.toList = bt117.1.toList then (if (bt119.2 != bt117.2) = true then (some false) else (some true)) else (some false)))) true := fun nA h =>
      Ev.bind h (Ev_eq fun k => by simp only [idec_no k s (by omega) nA, Option.bind_some]; simp)
    by_cases c : (s.size : Int) > 40000
    · refine bad (fun ⟨D, e, hD⟩ => ?_) (Ev_at1 fun k => by rw [spec_DecodeHex.f, if_pos c, spec_DecodeHex.j0, if_pos rfl])
      have := Lib.Hx.encode_length D; rw [← e] at this; omega
    · by_cases c2 : (s.size : Int) % 2 = 0
      · have hev := dec_loop s (by omega) (s.data.toList.length / 2) 0 [] (by omega) (by simp)
        rw [List.drop_zero] at hev
        have hs : Ev (fun k => spec_DecodeHex.f k s) (fin [] (pd s.data.toList)) := by
          refine Ev_round (fun k => spec_DecodeHex.l0 k s [] 0) (fun k => ?_) hev
          rw [spec_DecodeHex.f, if_neg c, spec_DecodeHex.j0, if_neg (by simp [c2])]
        by_cases A : ∃ D, s.data.toList = Lib.Hx.encode D ∧ D.length ≤ 20000
        · obtain ⟨D, e, hD⟩ := A
          rw [e, enc_pd, fin, List.nil_append, str_nums] at hs
          refine Ev.bind hs (Ev_eq fun k => ?_)
          simp only [idec_ok k s D e hD, Option.bind_some]; simp
        · refine bad A ?_
          cases hc : pd s.data.toList with
          | none => rw [hc] at hs; exact hs
          | some D =>
            have e := pd_enc _ _ D (Nat.le_refl _) hc
            have := Lib.Hx.encode_length D; rw [← e] at this
            exact absurd ⟨D, e, by omega⟩ A
      · refine bad (fun ⟨D, e, hD⟩ => ?_) (Ev_at1 fun k => by rw [spec_DecodeHex.f, if_neg c, spec_DecodeHex.j0, if_pos (by simpa using c2)])
        have := Lib.Hx.encode_length D; rw [← e] at this; omega

end Go.Proofs.YtoaaldfciabahaaDoor.PureFnExactDecodeHex
