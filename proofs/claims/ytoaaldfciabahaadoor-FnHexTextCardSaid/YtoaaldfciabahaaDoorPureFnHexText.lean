/- The law FnHexText returns true for all byte slices (the text that it draws from them is written in hexadecimal and read back). -/
import Derived.Test.YtoaaldfciabahaaDoorQFnHexTexty2
import Derived.Test.YtoaaldfciabahaaDoorM0
import Derived.Test.YtoaaldfciabahaaDoorMT
namespace Go.Proofs.YtoaaldfciabahaaDoor.PureFnHexText
open Go Go.RowKit Go.Proofs.YtoaaldfciabahaaDoor.PFnHexText Go.Proofs.YtoaaldfciabahaaDoor.My Go.Proofs.YtoaaldfciabahaaDoorW.PrintWords Go.Proofs.YtoaaldfciabahaaDoorW.PrintLast Go.Proofs.YtoaaldfciabahaaDoorW.PrintMore
set_option linter.unusedVariables false
set_option linter.unusedSimpArgs false
theorem and255 (x : Int) : 0 ≤ Go.bits .and .i64 x 255 ∧ Go.bits .and .i64 x 255 ≤ 255 := by
  have h : ((BitVec.ofInt 64 x) &&& (BitVec.ofInt 64 255)).toNat ≤ 255 := by
    rw [BitVec.toNat_and]; exact Nat.le_trans Nat.and_le_right (by decide)
  have e : Go.bits .and .i64 x 255 = IntKind.i64.wrap ((((BitVec.ofInt 64 x) &&& (BitVec.ofInt 64 255)).toNat : Nat) : Int) := rfl
  rw [e]
  generalize ((BitVec.ofInt 64 x) &&& (BitVec.ofInt 64 255)).toNat = n at *
  have : IntKind.i64.wrap (n : Int) = n := by
    have h1 : ((n : Nat) : Int) % (2 ^ 64 : Int) = n := Int.emod_eq_of_lt (by omega) (by omega)
    simp only [IntKind.wrap, IntKind.signed, IntKind.bits, h1]
    rw [if_neg (by simp; omega)]
  omega
def Cur (l : List Int) (i : Int) : Prop := l.length ≤ 1048576 ∧ 0 ≤ i ∧ i ≤ (l.length : Int)
theorem new_loop (l : List Int) (hl : l.length ≤ 1048576) : ∀ (d i : Nat) (h : Int), i + d = l.length → ∃ h', Ev (fun k => spec_l01New.l0 k l h (i : Int)) (l, 0, h') := by
  intro d
  induction d with
  | zero =>
    intro i h hi
    refine ⟨h, Ev_at1 fun k => ?_⟩
    simp only [spec_l01New.l0]
    rw [if_neg (by omega)]
  | succ d ih =>
    intro i h hi
    by_cases hs : (i : Int) < 4000
    · obtain ⟨h', he⟩ := ih (i + 1) (Go.bits .and .i64 (wrap64 ((wrap64 ((wrap64 (h * 131)) + (wrap64 (rd l (i : Int))))) + 7)) 1073741823) (by omega)
      refine ⟨h', Ev_round _ (fun k => ?_) he⟩
      simp only [spec_l01New.l0]
      rw [if_pos (by omega), if_pos hs, if_pos (by omega), wrap_id (n := (i : Int) + 1) (by omega) (by omega)]
      simp
    · refine ⟨h, Ev_at1 fun k => ?_⟩
      simp only [spec_l01New.l0]
      rw [if_pos (by omega), if_neg hs]
theorem new_ev (l : List Int) (hl : l.length ≤ 1048576) : ∃ h, Ev (fun k => spec_l01New.f k l) (l, 0, h) := by
  obtain ⟨h, he⟩ := new_loop l hl l.length 0 (wrap64 (98939 + (l.length : Int))) (by simp)
  exact ⟨h, by simpa [spec_l01New.f] using he⟩
theorem cur0 (l : List Int) (hl : l.length ≤ 1048576) : Cur l 0 := ⟨hl, by omega, by omega⟩
theorem byte_some {l : List Int} {i : Int} (h : Int) (c : Cur l i) : ∃ v i' h', spec_l01Byte.f l i h = some (v, i', h') ∧ Cur l i' ∧ 0 ≤ v ∧ v ≤ 255 := by
  obtain ⟨c0, c1, c2⟩ := c
  unfold spec_l01Byte.f
  by_cases hi : i < (l.length : Int)
  · rw [if_pos hi, if_pos c1, wrap_id (n := i + 1) (by omega) (by omega)]
    exact ⟨_, _, _, rfl, ⟨c0, by omega, by omega⟩, and255 _⟩
  · rw [if_neg hi]
    exact ⟨_, _, _, rfl, ⟨c0, c1, c2⟩, and255 _⟩
theorem tmod_lt_pos {x n : Int} (hx : 0 ≤ x) (hn : 0 < n) : 0 ≤ x.tmod n ∧ x.tmod n < n := by
  rw [Int.tmod_eq_emod_of_nonneg hx]
  exact ⟨Int.emod_nonneg _ (by omega), Int.emod_lt_of_pos _ hn⟩
theorem below_some {l : List Int} {i : Int} (h : Int) (n : Int) (c : Cur l i) : ∃ v i' h', spec_l01Below.f l i h n = some (v, i', h') ∧ Cur l i' ∧ 0 ≤ v ∧ (0 < n → v < n) ∧ (n ≤ 0 → v = 0) := by
  unfold spec_l01Below.f
  by_cases h0 : n ≤ 0
  · rw [if_pos h0]; exact ⟨_, _, _, rfl, c, by omega, by omega, by omega⟩
  · rw [if_neg h0]
    by_cases h1 : n ≤ 256
    · obtain ⟨v, i', h', e, c', v0, v1⟩ := byte_some h c
      rw [if_pos h1, e, Option.bind_some, if_neg (by omega)]
      have := tmod_lt_pos v0 (show 0 < n by omega)
      exact ⟨_, _, _, rfl, c', this.1, fun _ => this.2, by omega⟩
    · rw [if_neg h1]
      obtain ⟨x, i1, h1, e1, c1, x0, x1⟩ := byte_some h c
      obtain ⟨y, i2, h2, e2, c2, y0, y1⟩ := byte_some h1 c1
      obtain ⟨z, i3, h3, e3, c3, z0, z1⟩ := byte_some h2 c2
      obtain ⟨w, i4, h4, e4, c4, w0, w1⟩ := byte_some h3 c3
      simp only [e1, e2, e3, e4, Option.bind_some]
      rw [if_neg (by omega), wrap_id (n := x * 16777216) (by omega) (by omega), wrap_id (n := y * 65536) (by omega) (by omega), wrap_id (n := z * 256) (by omega) (by omega), wrap_id (n := x * 16777216 + y * 65536) (by omega) (by omega), wrap_id (n := x * 16777216 + y * 65536 + z * 256) (by omega) (by omega), wrap_id (by omega) (by omega)]
      have := tmod_lt_pos (x := x * 16777216 + y * 65536 + z * 256 + w) (by omega) (show 0 < n by omega)
      exact ⟨_, _, _, rfl, c4, this.1, fun _ => this.2, by omega⟩
theorem once_some {l : List Int} {i : Int} (h : Int) (n : Int) (c : Cur l i) : ∃ b i' h', spec_l01Once.f l i h n = some (b, i', h') ∧ Cur l i' := by
  obtain ⟨v, i', h', e, c', _⟩ := below_some h n c
  unfold spec_l01Once.f
  rw [e, Option.bind_some]
  exact ⟨_, _, _, rfl, c'⟩
theorem big_eq (l : List Int) : laws_big.f l = some (decide ((l.length : Int) > 1048576)) := rfl
/-! Texts drawn: of some bytes, of some length. -/
theorem long_ev (n : Nat) (hn : n ≤ 100000) (c : Int) : ∀ (d i : Nat) (l : List Int), i + d = n → l.length = n → ∃ r : List Int, r.length = n ∧ Ev (fun k => spec_l01Long.l0 k (n : Int) c l (i : Int)) (strOfNums r) := by
  intro d
  induction d with
  | zero =>
    intro i l hi hl
    exact ⟨l, hl, Ev_at1 fun k => by rw [spec_l01Long.l0, if_neg (by omega)]⟩
  | succ d ih =>
    intro i l hi hl
    obtain ⟨r, hr, he⟩ := ih (i + 1) (l.set i c) (by omega) (by simpa using hl)
    refine ⟨r, hr, Ev_round _ (fun k => ?_) he⟩
    rw [spec_l01Long.l0, if_pos (by omega), if_pos (by omega), if_pos (by omega), wrap_id (n := (i : Int) + 1) (by omega) (by omega)]
    rfl
theorem text_ev (n : Nat) (hn : n ≤ 5000) : ∀ (d i : Nat) (acc l : List Int) (c h : Int), i + d = n → acc.length = i → Cur l c → ∃ (r : List Int) (c' h' : Int), r.length = n ∧ Ev (fun k => spec_l01Text.l0 k (n : Int) acc (i : Int) l c h) (strOfNums r, c', h') := by
  intro d
  induction d with
  | zero =>
    intro i acc l c h hi ha hc
    exact ⟨acc, c, h, by omega, Ev_at1 fun k => by rw [spec_l01Text.l0, if_neg (by omega)]⟩
  | succ d ih =>
    intro i acc l c h hi ha hc
    obtain ⟨v, c1, h1, e, hc1, _⟩ := byte_some h hc
    obtain ⟨r, c', h', hr, he⟩ := ih (i + 1) (acc ++ [v % 256]) l c1 h1 (by omega) (by simp; omega) hc1
    refine ⟨r, c', h', hr, Ev_round _ (fun k => ?_) he⟩
    rw [spec_l01Text.l0, if_pos (by omega), e]
    simp only [Option.bind_some]
    rw [if_pos (by omega), wrap_id (n := (i : Int) + 1) (by omega) (by omega)]
    rfl
theorem itoa_len (n : Int) (h : (Lit.int .i64 n).wf = true) : (Lib.itoa n).length ≤ 21 := Lib.itoa_length_le n (wf_i64 h).1 (wf_i64 h).2
theorem ifmt_eq (k : Nat) (n : Int) (h : (Lit.int .i64 n).wf = true) : impl_FormatInt.f k n = some (tx (Lib.itoa n)) := by
  rw [impl_FormatInt.f, if_pos h]; rfl
/-! Hexadecimal text, written and read. -/
theorem v_dig : ∀ d : Fin 16, Lib.Hx.v (Lib.Hx.digit d.val) = d.val := by decide +kernel
theorem decode_encode (D : List UInt8) : Lib.Hx.decode (Lib.Hx.encode D) = (D, .ok) := by
  induction D with
  | nil => rw [show Lib.Hx.encode [] = [] from rfl, Lib.Hx.decode_nil]
  | cons a t ih =>
    have ha := a.toNat_lt
    have h1 := v_dig ⟨a.toNat / 16, by omega⟩
    have h2 := v_dig ⟨a.toNat % 16, by omega⟩
    simp only at h1 h2
    rw [Lib.Hx.encode_cons, Lib.Hx.decode_two, h1, h2, if_neg (by omega), if_neg (by omega), ih]
    simp only
    congr 2
    rw [show a.toNat / 16 * 16 + a.toNat % 16 = a.toNat by omega]; simp
theorem idec_ok (k : Nat) (s : ByteArray) (D : List UInt8) (h : s.data.toList = Lib.Hx.encode D) (hD : D.length ≤ 20000) : impl_DecodeHex.f k s = some (⟨D.toArray⟩, true) := by
  have hl := Lib.Hx.encode_length D
  have hz : s.size = s.data.toList.length := Lib.size_eq s
  rw [impl_DecodeHex.f, if_pos (by rw [hz, h]; omega), h, decode_encode]
  simp only
  rw [if_pos ⟨hD, by rw [Lib.toList_data, h]⟩]
theorem idec_no (k : Nat) (s : ByteArray) (hs : s.size ≤ 281474976710656) (h : ¬ ∃ D, s.data.toList = Lib.Hx.encode D ∧ D.length ≤ 20000) : impl_DecodeHex.f k s = some ((⟨#[]⟩ : ByteArray), false) := by
  rw [impl_DecodeHex.f, if_pos hs]
  cases hc : (Lib.Hx.decode s.data.toList).2 with
  | ok => simp only; rw [if_neg (fun q => h ⟨_, (Lib.toList_data s).symm.trans q.2.symm, q.1⟩)]
  | bad c => rfl
  | odd => rfl
theorem draw_ev (l : List Int) (hl : l.length ≤ 1048576) : ∃ s : ByteArray, s.size ≤ 30000 ∧ Ev (fun k => spec_DrawEncodeHex.f k l) s := by
  obtain ⟨h, he⟩ := new_ev l hl
  obtain ⟨o, i1, h1, e1, c1⟩ := once_some h 60 (cur0 l hl)
  cases o with
  | true =>
    obtain ⟨x, i2, h2, e2, c2, x0, x1, _⟩ := below_some h1 2 c1
    have x1 := x1 (by omega)
    obtain ⟨n, hn⟩ : ∃ n : Nat, 20000 + x = (n : Int) := ⟨(20000 + x).toNat, by omega⟩
    obtain ⟨r, hr, hev⟩ := long_ev n (by omega) 200 n 0 (List.replicate n 0) (by omega) (by simp)
    refine ⟨strOfNums r, by rw [strOfNums_size]; omega, Ev.bind he (Ev.congr (fun k => ?_) hev)⟩
    simp only [e1, e2, Option.bind_some, if_true]
    rw [wrap_id (n := 20000 + x) (by omega) (by omega), hn, spec_l01Long.f, if_pos (by omega), if_pos (by simp; omega)]
    simp only [Int.toNat_natCast]
    cases spec_l01Long.l0 k (n : Int) 200 (List.replicate n 0) 0 <;> rfl
  | false =>
    obtain ⟨x, i2, h2, e2, c2, x0, x1, _⟩ := below_some h1 30 c1
    have x1 := x1 (by omega)
    obtain ⟨n, rfl⟩ := Int.eq_ofNat_of_zero_le x0
    obtain ⟨r, c', h', hr, hev⟩ := text_ev n (by omega) n 0 [] l i2 h2 (by omega) rfl c2
    have hev2 : Ev (fun k => spec_l01Text.f k l i2 h2 (n : Int)) (strOfNums r, c', h') := by
      refine Ev.congr (fun k => by rw [spec_l01Text.f, if_neg (by omega)]) ?_
      exact Ev_round _ (fun k => by rw [spec_l01Text.j0]; rfl) hev
    refine ⟨strOfNums r, by rw [strOfNums_size]; omega, Ev.bind he ?_⟩
    have hb : Ev (fun k => (spec_l01Text.f k l i2 h2 (n : Int)).bind fun bt166 => some bt166.1) (strOfNums r) := Ev.bind hev2 (Ev_eq fun k => rfl)
    refine Ev.congr (fun k => ?_) hb
    simp only [e1, e2, Option.bind_some, Bool.false_eq_true, if_false]
theorem main : ∀ (l : List Int), l.length ≤ maxLen → l.length * 1 ≤ 140737488351232 → (∀ n ∈ l, (Lit.int .u8 n).wf = true) → ∃ k, laws_FnHexText.f k l = some true := by
  intro l _ _ _
  refine Ev.rounds ?_
  unfold laws_FnHexText.f
  by_cases hb : (l.length : Int) > 1048576
  · exact Ev_eq fun k => by simp [big_eq, hb]
  · obtain ⟨s, hs, he⟩ := draw_ev l (by omega)
    refine Ev.congr (fun k => by rw [big_eq, Option.bind_some, if_neg (by simpa using hb)]) (Ev.bind he (Ev_eq fun k => ?_))
    have hz : s.size = s.data.toList.length := Lib.size_eq s
    by_cases c : (s.size : Int) > 20000
    · have w10 : (Lit.int .i64 10).wf = true := by decide
      have e10 : (tx (Lib.itoa 10)).toList = [49, 48] := by rw [Lib.toList_data]; simp only [tx]; rw [Lib.itoa, if_neg (by omega), Lib.decDigits_two (by decide) (by decide)]; rfl
      have e0 : (⟨#[]⟩ : ByteArray).toList = [] := by rw [Lib.toList_data]
      simp only [impl_EncodeHex.f, if_pos c, Option.bind_some, ifmt_eq k 10 w10, e10, e0]
      simp
    · have hd := idec_ok k ⟨(Lib.Hx.encode s.data.toList).toArray⟩ s.data.toList (by simp) (by omega)
      have hm : (⟨s.data.toList.toArray⟩ : ByteArray) = s := Lib.mk_data s
      rw [hm] at hd
      have hl : (⟨(Lib.Hx.encode s.data.toList).toArray⟩ : ByteArray).size = 2 * s.size := by
        show (Lib.Hx.encode s.data.toList).toArray.size = _
        rw [List.size_toArray, Lib.Hx.encode_length, hz]
      simp only [impl_EncodeHex.f, if_neg c, Option.bind_some, hd, hl]
      simp
      rw [wrap_id (by omega) (by omega)]

end Go.Proofs.YtoaaldfciabahaaDoor.PureFnHexText
