/- The law FnNumbers returns true for all byte slices (the number that it draws from them is written and read back). -/
import Derived.Test.YtoaaldfciabahaaDoorQFnNumbersy1
import Derived.Test.YtoaaldfciabahaaDoorM0
import Derived.Test.YtoaaldfciabahaaDoorMT
namespace Go.Proofs.YtoaaldfciabahaaDoor.PureFnNumbers
open Go Go.RowKit Go.Proofs.YtoaaldfciabahaaDoor.PFnNumbers Go.Proofs.YtoaaldfciabahaaDoor.My Go.Proofs.YtoaaldfciabahaaDoorW.PrintWords Go.Proofs.YtoaaldfciabahaaDoorW.PrintLast Go.Proofs.YtoaaldfciabahaaDoorW.PrintMore
set_option linter.unusedVariables false
set_option linter.unusedSimpArgs false
theorem and255 (x : Int) : 0 ≤ Go.bits .and .i64 x 255 ∧ Go.bits .and .i64 x 255 ≤ 255 := by
  have h : ((BitVec.ofInt 64 x) &&& (BitVec.ofInt 64 255)).toNat ≤ 255 := by
    rw [BitVec.toNat_and]; exact Nat.le_trans Nat.and_le_right (by decide)
  have e : Go.bits .and .i64 x 255 = IntKind.i64.wrap ((((BitVec.ofInt 64 x) &&& (BitVec.ofInt 64 255)).toNat : Nat) : Int) := rfl
  rw [e]
  generalize ((BitVec.ofInt 64 x) &&& (BitVec.ofInt 64 255)).toNat = n at *
  have : IntKind.i64.wrap (n : Int) = n := by
    have h1 : ((n : Nat) : Int) % (2 ^ 64 : Int) = n := Int.emod_eq_of_lt (by omega) (by omega)
    simp only [IntKind.wrap, IntKind.signed, IntKind.bits, h1]
    rw [if_neg (by simp; omega)]
  omega
def Cur (l : List Int) (i : Int) : Prop := l.length ≤ 1048576 ∧ 0 ≤ i ∧ i ≤ (l.length : Int)
theorem new_loop (l : List Int) (hl : l.length ≤ 1048576) : ∀ (d i : Nat) (h : Int), i + d = l.length → ∃ h', Ev (fun k => spec_l01New.l0 k l h (i : Int)) (l, 0, h') := by
  intro d
  induction d with
  | zero =>
    intro i h hi
    refine ⟨h, Ev_at1 fun k => ?_⟩
    simp only [spec_l01New.l0]
    rw [if_neg (by omega)]
  | succ d ih =>
    intro i h hi
    by_cases hs : (i : Int) < 4000
    · obtain ⟨h', he⟩ := ih (i + 1) (Go.bits .and .i64 (wrap64 ((wrap64 ((wrap64 (h * 131)) + (wrap64 (rd l (i : Int))))) + 7)) 1073741823) (by omega)
      refine ⟨h', Ev_round _ (fun k => ?_) he⟩
      simp only [spec_l01New.l0]
      rw [if_pos (by omega), if_pos hs, if_pos (by omega), wrap_id (n := (i : Int) + 1) (by omega) (by omega)]
      simp
    · refine ⟨h, Ev_at1 fun k => ?_⟩
      simp only [spec_l01New.l0]
      rw [if_pos (by omega), if_neg hs]
theorem new_ev (l : List Int) (hl : l.length ≤ 1048576) : ∃ h, Ev (fun k => spec_l01New.f k l) (l, 0, h) := by
  obtain ⟨h, he⟩ := new_loop l hl l.length 0 (wrap64 (98939 + (l.length : Int))) (by simp)
  exact ⟨h, by simpa [spec_l01New.f] using he⟩
theorem cur0 (l : List Int) (hl : l.length ≤ 1048576) : Cur l 0 := ⟨hl, by omega, by omega⟩
theorem byte_some {l : List Int} {i : Int} (h : Int) (c : Cur l i) : ∃ v i' h', spec_l01Byte.f l i h = some (v, i', h') ∧ Cur l i' ∧ 0 ≤ v ∧ v ≤ 255 := by
  obtain ⟨c0, c1, c2⟩ := c
  unfold spec_l01Byte.f
  by_cases hi : i < (l.length : Int)
  · rw [if_pos hi, if_pos c1, wrap_id (n := i + 1) (by omega) (by omega)]
    exact ⟨_, _, _, rfl, ⟨c0, by omega, by omega⟩, and255 _⟩
  · rw [if_neg hi]
    exact ⟨_, _, _, rfl, ⟨c0, c1, c2⟩, and255 _⟩
theorem tmod_lt_pos {x n : Int} (hx : 0 ≤ x) (hn : 0 < n) : 0 ≤ x.tmod n ∧ x.tmod n < n := by
  rw [Int.tmod_eq_emod_of_nonneg hx]
  exact ⟨Int.emod_nonneg _ (by omega), Int.emod_lt_of_pos _ hn⟩
theorem below_some {l : List Int} {i : Int} (h : Int) (n : Int) (c : Cur l i) : ∃ v i' h', spec_l01Below.f l i h n = some (v, i', h') ∧ Cur l i' ∧ 0 ≤ v ∧ (0 < n → v < n) ∧ (n ≤ 0 → v = 0) := by
  unfold spec_l01Below.f
  by_cases h0 : n ≤ 0
  · rw [if_pos h0]; exact ⟨_, _, _, rfl, c, by omega, by omega, by omega⟩
  · rw [if_neg h0]
    by_cases h1 : n ≤ 256
    · obtain ⟨v, i', h', e, c', v0, v1⟩ := byte_some h c
      rw [if_pos h1, e, Option.bind_some, if_neg (by omega)]
      have := tmod_lt_pos v0 (show 0 < n by omega)
      exact ⟨_, _, _, rfl, c', this.1, fun _ => this.2, by omega⟩
    · rw [if_neg h1]
      obtain ⟨x, i1, h1, e1, c1, x0, x1⟩ := byte_some h c
      obtain ⟨y, i2, h2, e2, c2, y0, y1⟩ := byte_some h1 c1
      obtain ⟨z, i3, h3, e3, c3, z0, z1⟩ := byte_some h2 c2
      obtain ⟨w, i4, h4, e4, c4, w0, w1⟩ := byte_some h3 c3
      simp only [e1, e2, e3, e4, Option.bind_some]
      rw [if_neg (by omega), wrap_id (n := x * 16777216) (by omega) (by omega), wrap_id (n := y * 65536) (by omega) (by omega), wrap_id (n := z * 256) (by omega) (by omega), wrap_id (n := x * 16777216 + y * 65536) (by omega) (by omega), wrap_id (n := x * 16777216 + y * 65536 + z * 256) (by omega) (by omega), wrap_id (by omega) (by omega)]
      have := tmod_lt_pos (x := x * 16777216 + y * 65536 + z * 256 + w) (by omega) (show 0 < n by omega)
      exact ⟨_, _, _, rfl, c4, this.1, fun _ => this.2, by omega⟩
theorem once_some {l : List Int} {i : Int} (h : Int) (n : Int) (c : Cur l i) : ∃ b i' h', spec_l01Once.f l i h n = some (b, i', h') ∧ Cur l i' := by
  obtain ⟨v, i', h', e, c', _⟩ := below_some h n c
  unfold spec_l01Once.f
  rw [e, Option.bind_some]
  exact ⟨_, _, _, rfl, c'⟩
theorem pickInt_some {l : List Int} {i : Int} (h : Int) (m : List Int) (hm : m ≠ []) (c : Cur l i) : ∃ v i' h', spec_l01PickInt.f l i h m = some (v, i', h') ∧ Cur l i' ∧ v ∈ m := by
  have hp : 0 < m.length := List.length_pos_iff.2 hm
  obtain ⟨v, i', h', e, c', v0, v1, _⟩ := below_some h (m.length : Int) c
  have v1 := v1 (by omega)
  unfold spec_l01PickInt.f
  rw [e, Option.bind_some, if_pos v0, if_pos v1]
  exact ⟨_, _, _, rfl, c', rd_mem m v v0 v1⟩
theorem number_some {l : List Int} {i : Int} (h : Int) (c : Cur l i) : ∃ v i' h', spec_l01Number.f l i h = some (v, i', h') ∧ Cur l i' ∧ -9223372036854775808 ≤ v ∧ v ≤ 9223372036854775807 := by
  obtain ⟨v, i1, h1, e, c1, _, _⟩ := below_some h 4 c
  unfold spec_l01Number.f
  rw [e, Option.bind_some]
  by_cases h0 : v = 0
  · obtain ⟨x, i2, h2, e2, c2, hx⟩ := pickInt_some h1 [(-1), 0, 127, 128, 16383, 16384, 1000000000, 1000000001, 9223372036854775807, (-9223372036854775808)] (by simp) c1
    simp only [h0, if_true, e2, Option.bind_some]
    refine ⟨_, _, _, rfl, c2, ?_⟩
    simp only [List.mem_cons, List.not_mem_nil, or_false] at hx
    omega
  · by_cases h1' : v = 1
    · obtain ⟨x, i2, h2, e2, c2, x0, x1, _⟩ := below_some h1 1000000000 c1
      have := x1 (by omega)
      simp only [h1', show ¬ (1 : Int) = 0 from by omega, if_false, if_true, e2, Option.bind_some]
      exact ⟨_, _, _, rfl, c2, by omega, by omega⟩
    · obtain ⟨x, i2, h2, e2, c2, x0, x1, _⟩ := below_some h1 400 c1
      have := x1 (by omega)
      simp only [h0, h1', if_false, e2, Option.bind_some]
      exact ⟨_, _, _, rfl, c2, by omega, by omega⟩
theorem big_eq (l : List Int) : laws_big.f l = some (decide ((l.length : Int) > 1048576)) := rfl
theorem ifmt_eq (k : Nat) (n : Int) (h : (Lit.int .i64 n).wf = true) : impl_FormatInt.f k n = some (tx (Lib.itoa n)) := by
  rw [impl_FormatInt.f, if_pos h]; rfl
theorem itoa_len (n : Int) (h : (Lit.int .i64 n).wf = true) : (Lib.itoa n).length ≤ 21 := Lib.itoa_length_le n (wf_i64 h).1 (wf_i64 h).2
/-! The decimal numeral is read back. -/
theorem dig_nat {d : Nat} (h : d < 10) : (UInt8.ofNat (48 + d)).toNat = 48 + d := by
  rw [UInt8.toNat_ofNat']; omega
theorem mag_dec (u : Nat) : ∀ r : List UInt8, u < 18446744073709551616 → Lib.parseUint10 0 (Lib.decDigits u ++ r) = Lib.parseUint10 u r := by
  induction u using Nat.strongRecOn with
  | _ u ih =>
    intro r hu
    by_cases c : u < 10
    · rw [Lib.decDigits, dif_pos c]
      show Lib.parseUint10 0 (UInt8.ofNat (48 + u) :: r) = _
      rw [Lib.parseUint10, dig_nat c, if_pos (by omega), if_neg (by omega), if_neg (by omega)]
      congr 1; omega
    · rw [Lib.decDigits, dif_neg c, List.append_assoc, ih (u / 10) (by omega) _ (by omega)]
      show Lib.parseUint10 (u / 10) (UInt8.ofNat (48 + u % 10) :: r) = _
      rw [Lib.parseUint10, dig_nat (by omega), if_pos (by omega), if_neg (by omega), if_neg (by omega)]
      congr 1; omega
theorem dec_head (u : Nat) : ∃ d r, Lib.decDigits u = UInt8.ofNat (48 + d) :: r ∧ d < 10 := by
  induction u using Nat.strongRecOn with
  | _ u ih =>
    by_cases c : u < 10
    · exact ⟨u, [], by rw [Lib.decDigits, dif_pos c], c⟩
    · obtain ⟨d, r, e, hd⟩ := ih (u / 10) (by omega)
      exact ⟨d, r ++ [UInt8.ofNat (48 + u % 10)], by rw [Lib.decDigits, dif_neg c, e]; rfl, hd⟩
theorem mag_ok (u : Nat) (h : u < 18446744073709551616) : Lib.parseMag (Lib.decDigits u) = .ok u := by
  obtain ⟨d, r, e, hd⟩ := dec_head u
  rw [Lib.parseMag, if_neg (by rw [e]; simp)]
  have := mag_dec u [] h
  rw [List.append_nil] at this
  rw [this]; rfl
theorem atoi_itoa (n : Int) (h : (Lit.int .i64 n).wf = true) : Lib.atoiAll (Lib.itoa n) = .ok n := by
  have hb := wf_i64 h
  rw [Lib.itoa]
  by_cases c : n < 0
  · rw [if_pos c, Lib.atoiAll_minus, mag_ok _ (by omega)]
    simp only [Lib.signed]
    rw [if_neg (by omega)]; congr 1; omega
  · rw [if_neg c]
    obtain ⟨d, r, e, hd⟩ := dec_head n.toNat
    rw [e, Lib.atoiAll_plain _ _ (by rw [dig_nat hd]; omega) (by rw [dig_nat hd]; omega), ← e, mag_ok _ (by omega)]
    simp only [Lib.signless]
    rw [if_neg (by omega)]; congr 1; omega
theorem itoa_ne (n : Int) : Lib.itoa n ≠ [] := by
  rw [Lib.itoa]
  by_cases c : n < 0
  · rw [if_pos c]; simp
  · rw [if_neg c]; obtain ⟨d, r, e, _⟩ := dec_head n.toNat; rw [e]; simp
theorem parse_fmt (k : Nat) (n : Int) (h : (Lit.int .i64 n).wf = true) : impl_ParseUint.f k (tx (Lib.itoa n)) = some (if 0 ≤ n ∧ n ≤ 1000000000 then (n, true) else (0, false)) := by
  have hl := itoa_len n h
  rw [impl_ParseUint.f, if_pos (by rw [tx_size]; omega)]
  have e : (tx (Lib.itoa n)).data.toList = Lib.itoa n := by simp [tx]
  rw [e]; simp only [atoi_itoa n h]
  by_cases c : 0 ≤ n ∧ n ≤ 1000000000
  · rw [if_pos ⟨c.1, c.2, rfl⟩, if_pos c]
  · rw [if_neg (fun q => c ⟨q.1, q.2.1⟩), if_neg c]
theorem draw_ev (l : List Int) (hl : l.length ≤ 1048576) : ∃ n, Ev (fun k => spec_DrawFormatInt.f k l) n ∧ (Lit.int .i64 n).wf = true := by
  obtain ⟨h, he⟩ := new_ev l hl
  obtain ⟨o, i1, h1, e1, c1⟩ := once_some h 3 (cur0 l hl)
  have wfi : ∀ n : Int, -9223372036854775808 ≤ n → n ≤ 9223372036854775807 → (Lit.int .i64 n).wf = true := fun n p q => by
    simp [Lit.wf, IntKind.min, IntKind.max, IntKind.signed, IntKind.bits]; omega
  cases o with
  | true =>
    obtain ⟨x, i2, h2, e2, c2, _⟩ := below_some h1 1000000 c1
    obtain ⟨y, i3, h3, e3, c3, _⟩ := below_some h2 2000000 c2
    refine ⟨wrap64 (x * (wrap64 (y - 1000000))), Ev.bind he (Ev_eq fun k => ?_), wfi _ (wrap_bd _).1 (wrap_bd _).2⟩
    simp only [e1, e2, e3, Option.bind_some, if_true]
  | false =>
    obtain ⟨x, i2, h2, e2, c2, hx⟩ := number_some h1 c1
    refine ⟨x, Ev.bind he (Ev_eq fun k => ?_), wfi _ hx.1 hx.2⟩
    simp only [e1, e2, Option.bind_some, Bool.false_eq_true, if_false]
theorem main : ∀ (l : List Int), l.length ≤ maxLen → l.length * 1 ≤ 140737488351232 → (∀ n ∈ l, (Lit.int .u8 n).wf = true) → ∃ k, laws_FnNumbers.f k l = some true := by
  intro l _ _ _
  refine Ev.rounds ?_
  unfold laws_FnNumbers.f
  by_cases hb : (l.length : Int) > 1048576
  · exact Ev_eq fun k => by simp [big_eq, hb]
  · obtain ⟨n, he, hw⟩ := draw_ev l (by omega)
    refine Ev.congr (fun k => by rw [big_eq, Option.bind_some, if_neg (by simpa using hb)]) (Ev.bind he (Ev_eq fun k => ?_))
    have hne : ¬ (tx (Lib.itoa n)).toList = ([] : List UInt8) := by rw [Lib.toList_data]; simpa [tx] using itoa_ne n
    simp only [ifmt_eq k n hw, parse_fmt k n hw, Option.bind_some, hne, if_false]
    by_cases h1 : 0 ≤ n <;> by_cases h2 : n ≤ 1000000000 <;> simp [h1, h2]

end Go.Proofs.YtoaaldfciabahaaDoor.PureFnNumbers
