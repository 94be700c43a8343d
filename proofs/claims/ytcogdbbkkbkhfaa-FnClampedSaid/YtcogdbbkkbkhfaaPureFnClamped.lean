/- The law FnClamped returns true for all byte slices (the draws of three numbers that it reads from them). -/
import Derived.Test.YtcogdbbkkbkhfaaQFnClampedy1
import Derived.Test.YtcogdbbkkbkhfaaM0
namespace Go.Proofs.Ytcogdbbkkbkhfaa.PureFnClamped
open Go Go.RowKit Go.Proofs.Ytcogdbbkkbkhfaa.PFnClamped Go.Proofs.Ytcogdbbkkbkhfaa.My Go.Proofs.YtcogdbbkkbkhfaaW.PrintWords Go.Proofs.YtcogdbbkkbkhfaaW.PrintLast Go.Proofs.YtcogdbbkkbkhfaaW.PrintMore
set_option linter.unusedVariables false
set_option linter.unusedSimpArgs false
theorem and255 (x : Int) : 0 ≤ Go.bits .and .i64 x 255 ∧ Go.bits .and .i64 x 255 ≤ 255 := by
  have h : ((BitVec.ofInt 64 x) &&& (BitVec.ofInt 64 255)).toNat ≤ 255 := by
    rw [BitVec.toNat_and]; exact Nat.le_trans Nat.and_le_right (by decide)
  have e : Go.bits .and .i64 x 255 = IntKind.i64.wrap ((((BitVec.ofInt 64 x) &&& (BitVec.ofInt 64 255)).toNat : Nat) : Int) := rfl
  rw [e]
  generalize ((BitVec.ofInt 64 x) &&& (BitVec.ofInt 64 255)).toNat = n at *
  have : IntKind.i64.wrap (n : Int) = n := by
    have h1 : ((n : Nat) : Int) % (2 ^ 64 : Int) = n := Int.emod_eq_of_lt (by omega) (by omega)
    simp only [IntKind.wrap, IntKind.signed, IntKind.bits, h1]
    rw [if_neg (by simp; omega)]
  omega
def Cur (l : List Int) (i : Int) : Prop := l.length ≤ 1048576 ∧ 0 ≤ i ∧ i ≤ (l.length : Int)
theorem new_loop (l : List Int) (hl : l.length ≤ 1048576) : ∀ (d i : Nat) (h : Int), i + d = l.length → ∃ h', Ev (fun k => spec_l01New.l0 k l h (i : Int)) (l, 0, h') := by
  intro d
  induction d with
  | zero =>
    intro i h hi
    refine ⟨h, Ev_at1 fun k => ?_⟩
    simp only [spec_l01New.l0]
    rw [if_neg (by omega)]
  | succ d ih =>
    intro i h hi
    by_cases hs : (i : Int) < 4000
    · obtain ⟨h', he⟩ := ih (i + 1) (Go.bits .and .i64 (wrap64 ((wrap64 ((wrap64 (h * 131)) + (wrap64 (rd l (i : Int))))) + 7)) 1073741823) (by omega)
      refine ⟨h', Ev_round _ (fun k => ?_) he⟩
      simp only [spec_l01New.l0]
      rw [if_pos (by omega), if_pos hs, if_pos (by omega), wrap_id (n := (i : Int) + 1) (by omega) (by omega)]
      simp
    · refine ⟨h, Ev_at1 fun k => ?_⟩
      simp only [spec_l01New.l0]
      rw [if_pos (by omega), if_neg hs]
theorem new_ev (l : List Int) (hl : l.length ≤ 1048576) : ∃ h, Ev (fun k => spec_l01New.f k l) (l, 0, h) := by
  obtain ⟨h, he⟩ := new_loop l hl l.length 0 (wrap64 (98939 + (l.length : Int))) (by simp)
  exact ⟨h, by simpa [spec_l01New.f] using he⟩
theorem cur0 (l : List Int) (hl : l.length ≤ 1048576) : Cur l 0 := ⟨hl, by omega, by omega⟩
theorem byte_some {l : List Int} {i : Int} (h : Int) (c : Cur l i) : ∃ v i' h', spec_l01Byte.f l i h = some (v, i', h') ∧ Cur l i' ∧ 0 ≤ v ∧ v ≤ 255 := by
  obtain ⟨c0, c1, c2⟩ := c
  unfold spec_l01Byte.f
  by_cases hi : i < (l.length : Int)
  · rw [if_pos hi, if_pos c1, wrap_id (n := i + 1) (by omega) (by omega)]
    exact ⟨_, _, _, rfl, ⟨c0, by omega, by omega⟩, and255 _⟩
  · rw [if_neg hi]
    exact ⟨_, _, _, rfl, ⟨c0, c1, c2⟩, and255 _⟩
theorem tmod_lt_pos {x n : Int} (hx : 0 ≤ x) (hn : 0 < n) : 0 ≤ x.tmod n ∧ x.tmod n < n := by
  rw [Int.tmod_eq_emod_of_nonneg hx]
  exact ⟨Int.emod_nonneg _ (by omega), Int.emod_lt_of_pos _ hn⟩
theorem below_some {l : List Int} {i : Int} (h : Int) (n : Int) (c : Cur l i) : ∃ v i' h', spec_l01Below.f l i h n = some (v, i', h') ∧ Cur l i' ∧ 0 ≤ v ∧ (0 < n → v < n) ∧ (n ≤ 0 → v = 0) := by
  unfold spec_l01Below.f
  by_cases h0 : n ≤ 0
  · rw [if_pos h0]; exact ⟨_, _, _, rfl, c, by omega, by omega, by omega⟩
  · rw [if_neg h0]
    by_cases h1 : n ≤ 256
    · obtain ⟨v, i', h', e, c', v0, v1⟩ := byte_some h c
      rw [if_pos h1, e, Option.bind_some, if_neg (by omega)]
      have := tmod_lt_pos v0 (show 0 < n by omega)
      exact ⟨_, _, _, rfl, c', this.1, fun _ => this.2, by omega⟩
    · rw [if_neg h1]
      obtain ⟨x, i1, h1, e1, c1, x0, x1⟩ := byte_some h c
      obtain ⟨y, i2, h2, e2, c2, y0, y1⟩ := byte_some h1 c1
      obtain ⟨z, i3, h3, e3, c3, z0, z1⟩ := byte_some h2 c2
      obtain ⟨w, i4, h4, e4, c4, w0, w1⟩ := byte_some h3 c3
      simp only [e1, e2, e3, e4, Option.bind_some]
      rw [if_neg (by omega), wrap_id (n := x * 16777216) (by omega) (by omega), wrap_id (n := y * 65536) (by omega) (by omega), wrap_id (n := z * 256) (by omega) (by omega), wrap_id (n := x * 16777216 + y * 65536) (by omega) (by omega), wrap_id (n := x * 16777216 + y * 65536 + z * 256) (by omega) (by omega), wrap_id (by omega) (by omega)]
      have := tmod_lt_pos (x := x * 16777216 + y * 65536 + z * 256 + w) (by omega) (show 0 < n by omega)
      exact ⟨_, _, _, rfl, c4, this.1, fun _ => this.2, by omega⟩
theorem once_some {l : List Int} {i : Int} (h : Int) (n : Int) (c : Cur l i) : ∃ b i' h', spec_l01Once.f l i h n = some (b, i', h') ∧ Cur l i' := by
  obtain ⟨v, i', h', e, c', _⟩ := below_some h n c
  unfold spec_l01Once.f
  rw [e, Option.bind_some]
  exact ⟨_, _, _, rfl, c'⟩
theorem pickInt_some {l : List Int} {i : Int} (h : Int) (m : List Int) (hm : m ≠ []) (c : Cur l i) : ∃ v i' h', spec_l01PickInt.f l i h m = some (v, i', h') ∧ Cur l i' ∧ v ∈ m := by
  have hp : 0 < m.length := List.length_pos_iff.2 hm
  obtain ⟨v, i', h', e, c', v0, v1, _⟩ := below_some h (m.length : Int) c
  have v1 := v1 (by omega)
  unfold spec_l01PickInt.f
  rw [e, Option.bind_some, if_pos v0, if_pos v1]
  exact ⟨_, _, _, rfl, c', rd_mem m v v0 v1⟩
theorem number_some {l : List Int} {i : Int} (h : Int) (c : Cur l i) : ∃ v i' h', spec_l01Number.f l i h = some (v, i', h') ∧ Cur l i' ∧ -9223372036854775808 ≤ v ∧ v ≤ 9223372036854775807 := by
  obtain ⟨v, i1, h1, e, c1, _, _⟩ := below_some h 4 c
  unfold spec_l01Number.f
  rw [e, Option.bind_some]
  by_cases h0 : v = 0
  · obtain ⟨x, i2, h2, e2, c2, hx⟩ := pickInt_some h1 [(-1), 0, 127, 128, 16383, 16384, 1000000000, 1000000001, 9223372036854775807, (-9223372036854775808)] (by simp) c1
    simp only [h0, if_true, e2, Option.bind_some]
    refine ⟨_, _, _, rfl, c2, ?_⟩
    simp only [List.mem_cons, List.not_mem_nil, or_false] at hx
    omega
  · by_cases h1' : v = 1
    · obtain ⟨x, i2, h2, e2, c2, x0, x1, _⟩ := below_some h1 1000000000 c1
      have := x1 (by omega)
      simp only [h1', show ¬ (1 : Int) = 0 from by omega, if_false, if_true, e2, Option.bind_some]
      exact ⟨_, _, _, rfl, c2, by omega, by omega⟩
    · obtain ⟨x, i2, h2, e2, c2, x0, x1, _⟩ := below_some h1 400 c1
      have := x1 (by omega)
      simp only [h0, h1', if_false, e2, Option.bind_some]
      exact ⟨_, _, _, rfl, c2, by omega, by omega⟩
theorem big_eq (l : List Int) : laws_big.f l = some (decide ((l.length : Int) > 1048576)) := rfl
theorem draw_ev (l : List Int) (hl : l.length ≤ 1048576) : ∃ n a b, Ev (fun k => spec_DrawClamp.f k l) (n, a, b) := by
  obtain ⟨h, he⟩ := new_ev l hl
  obtain ⟨o, i1, h1, e1, c1⟩ := once_some h 4 (cur0 l hl)
  cases o with
  | true =>
    obtain ⟨x, i2, h2, e2, c2, _⟩ := number_some h1 c1
    obtain ⟨y, i3, h3, e3, c3, _⟩ := number_some h2 c2
    obtain ⟨z, i4, h4, e4, c4, _⟩ := number_some h3 c3
    refine ⟨x, y, z, Ev.bind he (Ev_eq fun k => ?_)⟩
    simp only [e1, e2, e3, e4, Option.bind_some, if_true]
  | false =>
    obtain ⟨x, i2, h2, e2, c2, _⟩ := below_some h1 40 c1
    obtain ⟨y, i3, h3, e3, c3, _⟩ := below_some h2 80 c2
    obtain ⟨z, i4, h4, e4, c4, _⟩ := below_some h3 30 c3
    refine ⟨wrap64 (y - 40), wrap64 (x - 20), wrap64 ((wrap64 ((wrap64 (x - 20)) + z)) - 3), Ev.bind he (Ev_eq fun k => ?_)⟩
    simp only [e1, e2, e3, e4, Option.bind_some, Bool.false_eq_true, if_false]
theorem clamp_eq (n a b : Int) : impl_Clamp.f n a b = some (if n > b then (if b < a then a else b) else if n < a then a else n) := by
  unfold impl_Clamp.f; split <;> split <;> rfl
theorem main : laws_FnClamped.Pure := by
  intro l _ _ _
  refine Ev.rounds ?_
  unfold laws_FnClamped.f
  by_cases hb : (l.length : Int) > 1048576
  · exact Ev_eq fun k => by simp [big_eq, hb]
  · obtain ⟨n, a, b, he⟩ := draw_ev l (by omega)
    refine Ev.congr (fun k => by rw [big_eq, Option.bind_some, if_neg (by simpa using hb)]) (Ev.bind he (Ev_eq fun k => ?_))
    simp only [clamp_eq, Option.bind_some]
    by_cases h1 : n > b <;> by_cases h2 : b < a <;> by_cases h3 : n < a <;> simp [h1, h2, h3] <;> first | omega | (rw [if_pos (by omega), if_pos (by omega)])

end Go.Proofs.Ytcogdbbkkbkhfaa.PureFnClamped
namespace Go.Proofs.Ytcogdbbkkbkhfaa.Pure
theorem FnClamped : Go.Proofs.Ytcogdbbkkbkhfaa.PFnClamped.laws_FnClamped.Pure := Go.Proofs.Ytcogdbbkkbkhfaa.PureFnClamped.main
end Go.Proofs.Ytcogdbbkkbkhfaa.Pure
