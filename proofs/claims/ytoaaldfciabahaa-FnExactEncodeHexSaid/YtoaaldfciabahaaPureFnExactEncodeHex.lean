/- The law FnExactEncodeHex returns true for all texts of less than 2^47 bytes. -/
import Derived.Test.YtoaaldfciabahaaQFnExactEncodeHexy1
import Derived.Test.YtoaaldfciabahaaM0
namespace Go.Proofs.Ytoaaldfciabahaa.PureFnExactEncodeHex
open Go Go.RowKit Go.Proofs.Ytoaaldfciabahaa.PFnExactEncodeHex Go.Proofs.Ytoaaldfciabahaa.My Go.Proofs.YtoaaldfciabahaaW.PrintWords Go.Proofs.YtoaaldfciabahaaW.PrintLast Go.Proofs.YtoaaldfciabahaaW.PrintMore
set_option linter.unusedVariables false
set_option linter.unusedSimpArgs false
/-! spec.EncodeHex writes the hexadecimal text. -/
theorem fig16 : ∀ d : Fin 16, spec_l01Figure.f (d.val : Int) = some ((Lib.Hx.digit d.val).toNat : Int) := by decide +kernel
theorem fig_eq (d : Nat) (h : d < 16) : spec_l01Figure.f (d : Int) = some ((Lib.Hx.digit d).toNat : Int) := fig16 ⟨d, h⟩
theorem bt_list (s : ByteArray) (i : Nat) (h : i < s.data.toList.length) : bt s (i : Int) = ((s.data.toList[i]).toNat : Int) := by
  have hs : i < s.size := by rw [Lib.size_eq]; exact h
  rw [bt, dif_pos (by simpa using hs)]
  simp; rfl
theorem enc_snoc (l : List UInt8) (b : UInt8) : Lib.Hx.nums (l ++ [b]) = Lib.Hx.nums l ++ [((Lib.Hx.digit (b.toNat / 16)).toNat : Int), ((Lib.Hx.digit (b.toNat % 16)).toNat : Int)] := by
  simp [Lib.Hx.nums, Lib.Hx.encode, List.flatMap_append]
theorem hex_loop (s : ByteArray) (hs : s.data.toList.length ≤ 20000) : ∀ (d i : Nat), i + d = s.data.toList.length →
    Ev (fun k => spec_EncodeHex.l0 k s (Lib.Hx.nums (s.data.toList.take i)) (i : Int)) (⟨(Lib.Hx.encode s.data.toList).toArray⟩, true) := by
  have hz : (s.size : Int) = (s.data.toList.length : Int) := by rw [Lib.size_eq]
  intro d
  induction d with
  | zero =>
    intro i hi
    refine Ev_at1 fun k => ?_
    rw [spec_EncodeHex.l0, if_neg (by omega), show s.data.toList.take i = s.data.toList by rw [List.take_of_length_le (by omega)], Lib.Hx.strOfNums_nums]
  | succ d ih =>
    intro i hi
    have hlt : i < s.data.toList.length := by omega
    have hb := (s.data.toList[i]).toNat_lt
    refine Ev_round _ (fun k => ?_) (ih (i + 1) (by omega))
    rw [spec_EncodeHex.l0, if_pos (by omega), if_pos (by omega), bt_list s i hlt]
    generalize hB : s.data.toList[i] = b at hb
    have e1 : wrap64 (b.toNat : Int) = (b.toNat : Int) := wrap_id (by omega) (by omega)
    rw [e1, Int.tdiv_eq_ediv_of_nonneg (by omega), Int.tmod_eq_emod_of_nonneg (by omega)]
    have e2 : wrap64 ((b.toNat : Int) / 16) = ((b.toNat / 16 : Nat) : Int) := by rw [wrap_id (by omega) (by omega)]; rfl
    have e3 : (b.toNat : Int) % 16 = ((b.toNat % 16 : Nat) : Int) := rfl
    rw [e2, e3, fig_eq _ (by omega), fig_eq _ (by omega)]
    simp only [Option.bind_some]
    have hn : (Lib.Hx.nums (s.data.toList.take i)).length = 2 * i := by rw [Lib.Hx.nums_length, List.length_take]; omega
    rw [if_pos (by rw [hn]; simp; omega), wrap_id (n := (i : Int) + 1) (by omega) (by omega), List.take_succ_eq_append_getElem hlt, hB, enc_snoc]
    rfl
theorem hexenc_ev (s : ByteArray) (hs : s.data.toList.length ≤ 20000) : Ev (fun k => spec_EncodeHex.f k s) (⟨(Lib.Hx.encode s.data.toList).toArray⟩, true) := by
  have hz : (s.size : Int) = (s.data.toList.length : Int) := by rw [Lib.size_eq]
  have := hex_loop s hs s.data.toList.length 0 (by omega)
  refine Ev.congr (fun k => ?_) this
  rw [spec_EncodeHex.f, if_neg (by omega)]; rfl
theorem main (s : ByteArray) (h0 : s.size ≤ 140737488351232) : ∃ k, laws_FnExactEncodeHex.f k s = some true := by
  refine Ev.rounds ?_
  unfold laws_FnExactEncodeHex.f
  by_cases hb : (s.size : Int) > 1048576
  · exact Ev_eq fun k => by rw [if_pos hb]
  · refine Ev.congr (fun k => by rw [if_neg hb]) ?_
    have hz : (s.size : Int) = (s.data.toList.length : Int) := by rw [Lib.size_eq]
    by_cases c : (s.size : Int) > 20000
    · exact Ev_eq fun k => by simp only [spec_EncodeHex.f, impl_EncodeHex.f, if_pos c, Option.bind_some, if_true]; simp
    · refine Ev.bind (hexenc_ev s (by omega)) (Ev_eq fun k => ?_)
      simp only [impl_EncodeHex.f, if_neg c, Option.bind_some, if_true]; simp

end Go.Proofs.Ytoaaldfciabahaa.PureFnExactEncodeHex
