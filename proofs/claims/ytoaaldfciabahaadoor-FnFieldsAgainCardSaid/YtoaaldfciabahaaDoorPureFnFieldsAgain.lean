/- The law FnFieldsAgain returns true for all byte slices (the line that it draws from them is split, joined and split again). -/
import Derived.Test.YtoaaldfciabahaaDoorQFnFieldsAgainy2
import Derived.Test.YtoaaldfciabahaaDoorM0
import Derived.Test.YtoaaldfciabahaaDoorMT
namespace Go.Proofs.YtoaaldfciabahaaDoor.PureFnFieldsAgain
open Go Go.RowKit Go.Proofs.YtoaaldfciabahaaDoor.PFnFieldsAgain Go.Proofs.YtoaaldfciabahaaDoor.My Go.Proofs.YtoaaldfciabahaaDoorW.PrintWords Go.Proofs.YtoaaldfciabahaaDoorW.PrintLast Go.Proofs.YtoaaldfciabahaaDoorW.PrintMore
set_option linter.unusedVariables false
set_option linter.unusedSimpArgs false
theorem and255 (x : Int) : 0 ≤ Go.bits .and .i64 x 255 ∧ Go.bits .and .i64 x 255 ≤ 255 := by
  have h : ((BitVec.ofInt 64 x) &&& (BitVec.ofInt 64 255)).toNat ≤ 255 := by
    rw [BitVec.toNat_and]; exact Nat.le_trans Nat.and_le_right (by decide)
  have e : Go.bits .and .i64 x 255 = IntKind.i64.wrap ((((BitVec.ofInt 64 x) &&& (BitVec.ofInt 64 255)).toNat : Nat) : Int) := rfl
  rw [e]
  generalize ((BitVec.ofInt 64 x) &&& (BitVec.ofInt 64 255)).toNat = n at *
  have : IntKind.i64.wrap (n : Int) = n := by
    have h1 : ((n : Nat) : Int) % (2 ^ 64 : Int) = n := Int.emod_eq_of_lt (by omega) (by omega)
    simp only [IntKind.wrap, IntKind.signed, IntKind.bits, h1]
    rw [if_neg (by simp; omega)]
  omega
def Cur (l : List Int) (i : Int) : Prop := l.length ≤ 1048576 ∧ 0 ≤ i ∧ i ≤ (l.length : Int)
theorem new_loop (l : List Int) (hl : l.length ≤ 1048576) : ∀ (d i : Nat) (h : Int), i + d = l.length → ∃ h', Ev (fun k => spec_l01New.l0 k l h (i : Int)) (l, 0, h') := by
  intro d
  induction d with
  | zero =>
    intro i h hi
    refine ⟨h, Ev_at1 fun k => ?_⟩
    simp only [spec_l01New.l0]
    rw [if_neg (by omega)]
  | succ d ih =>
    intro i h hi
    by_cases hs : (i : Int) < 4000
    · obtain ⟨h', he⟩ := ih (i + 1) (Go.bits .and .i64 (wrap64 ((wrap64 ((wrap64 (h * 131)) + (wrap64 (rd l (i : Int))))) + 7)) 1073741823) (by omega)
      refine ⟨h', Ev_round _ (fun k => ?_) he⟩
      simp only [spec_l01New.l0]
      rw [if_pos (by omega), if_pos hs, if_pos (by omega), wrap_id (n := (i : Int) + 1) (by omega) (by omega)]
      simp
    · refine ⟨h, Ev_at1 fun k => ?_⟩
      simp only [spec_l01New.l0]
      rw [if_pos (by omega), if_neg hs]
theorem new_ev (l : List Int) (hl : l.length ≤ 1048576) : ∃ h, Ev (fun k => spec_l01New.f k l) (l, 0, h) := by
  obtain ⟨h, he⟩ := new_loop l hl l.length 0 (wrap64 (98939 + (l.length : Int))) (by simp)
  exact ⟨h, by simpa [spec_l01New.f] using he⟩
theorem cur0 (l : List Int) (hl : l.length ≤ 1048576) : Cur l 0 := ⟨hl, by omega, by omega⟩
theorem byte_some {l : List Int} {i : Int} (h : Int) (c : Cur l i) : ∃ v i' h', spec_l01Byte.f l i h = some (v, i', h') ∧ Cur l i' ∧ 0 ≤ v ∧ v ≤ 255 := by
  obtain ⟨c0, c1, c2⟩ := c
  unfold spec_l01Byte.f
  by_cases hi : i < (l.length : Int)
  · rw [if_pos hi, if_pos c1, wrap_id (n := i + 1) (by omega) (by omega)]
    exact ⟨_, _, _, rfl, ⟨c0, by omega, by omega⟩, and255 _⟩
  · rw [if_neg hi]
    exact ⟨_, _, _, rfl, ⟨c0, c1, c2⟩, and255 _⟩
theorem tmod_lt_pos {x n : Int} (hx : 0 ≤ x) (hn : 0 < n) : 0 ≤ x.tmod n ∧ x.tmod n < n := by
  rw [Int.tmod_eq_emod_of_nonneg hx]
  exact ⟨Int.emod_nonneg _ (by omega), Int.emod_lt_of_pos _ hn⟩
theorem below_some {l : List Int} {i : Int} (h : Int) (n : Int) (c : Cur l i) : ∃ v i' h', spec_l01Below.f l i h n = some (v, i', h') ∧ Cur l i' ∧ 0 ≤ v ∧ (0 < n → v < n) ∧ (n ≤ 0 → v = 0) := by
  unfold spec_l01Below.f
  by_cases h0 : n ≤ 0
  · rw [if_pos h0]; exact ⟨_, _, _, rfl, c, by omega, by omega, by omega⟩
  · rw [if_neg h0]
    by_cases h1 : n ≤ 256
    · obtain ⟨v, i', h', e, c', v0, v1⟩ := byte_some h c
      rw [if_pos h1, e, Option.bind_some, if_neg (by omega)]
      have := tmod_lt_pos v0 (show 0 < n by omega)
      exact ⟨_, _, _, rfl, c', this.1, fun _ => this.2, by omega⟩
    · rw [if_neg h1]
      obtain ⟨x, i1, h1, e1, c1, x0, x1⟩ := byte_some h c
      obtain ⟨y, i2, h2, e2, c2, y0, y1⟩ := byte_some h1 c1
      obtain ⟨z, i3, h3, e3, c3, z0, z1⟩ := byte_some h2 c2
      obtain ⟨w, i4, h4, e4, c4, w0, w1⟩ := byte_some h3 c3
      simp only [e1, e2, e3, e4, Option.bind_some]
      rw [if_neg (by omega), wrap_id (n := x * 16777216) (by omega) (by omega), wrap_id (n := y * 65536) (by omega) (by omega), wrap_id (n := z * 256) (by omega) (by omega), wrap_id (n := x * 16777216 + y * 65536) (by omega) (by omega), wrap_id (n := x * 16777216 + y * 65536 + z * 256) (by omega) (by omega), wrap_id (by omega) (by omega)]
      have := tmod_lt_pos (x := x * 16777216 + y * 65536 + z * 256 + w) (by omega) (show 0 < n by omega)
      exact ⟨_, _, _, rfl, c4, this.1, fun _ => this.2, by omega⟩
theorem once_some {l : List Int} {i : Int} (h : Int) (n : Int) (c : Cur l i) : ∃ b i' h', spec_l01Once.f l i h n = some (b, i', h') ∧ Cur l i' := by
  obtain ⟨v, i', h', e, c', _⟩ := below_some h n c
  unfold spec_l01Once.f
  rw [e, Option.bind_some]
  exact ⟨_, _, _, rfl, c'⟩
theorem big_eq (l : List Int) : laws_big.f l = some (decide ((l.length : Int) > 1048576)) := rfl
/-! Texts drawn: of some bytes, of some length. -/
theorem long_ev (n : Nat) (hn : n ≤ 100000) (c : Int) : ∀ (d i : Nat) (l : List Int), i + d = n → l.length = n → ∃ r : List Int, r.length = n ∧ Ev (fun k => spec_l01Long.l0 k (n : Int) c l (i : Int)) (strOfNums r) := by
  intro d
  induction d with
  | zero =>
    intro i l hi hl
    exact ⟨l, hl, Ev_at1 fun k => by rw [spec_l01Long.l0, if_neg (by omega)]⟩
  | succ d ih =>
    intro i l hi hl
    obtain ⟨r, hr, he⟩ := ih (i + 1) (l.set i c) (by omega) (by simpa using hl)
    refine ⟨r, hr, Ev_round _ (fun k => ?_) he⟩
    rw [spec_l01Long.l0, if_pos (by omega), if_pos (by omega), if_pos (by omega), wrap_id (n := (i : Int) + 1) (by omega) (by omega)]
    rfl
/-! The line that is drawn. -/
theorem long_f (n : Int) (h0 : 0 ≤ n) (h1 : n ≤ 100000) (c : Int) : ∃ r : List Int, (r.length : Int) = n ∧ Ev (fun k => spec_l01Long.f k n c) (strOfNums r) := by
  obtain ⟨m, rfl⟩ := Int.eq_ofNat_of_zero_le h0
  obtain ⟨r, hr, he⟩ := long_ev m (by omega) c m 0 (List.replicate m 0) (by omega) (by simp)
  refine ⟨r, by omega, Ev.congr (fun k => ?_) he⟩
  rw [spec_l01Long.f, if_pos (by omega), if_pos (by simp; omega)]
  simp only [Int.toNat_natCast]; rfl
theorem pick_some {l : List Int} {i : Int} (h : Int) (m : List ByteArray) (hm : m ≠ []) (c : Cur l i) : ∃ v i' h', spec_l01Pick.f l i h m = some (v, i', h') ∧ Cur l i' ∧ v ∈ m := by
  have hp : 0 < m.length := List.length_pos_iff.2 hm
  obtain ⟨v, i', h', e, c', v0, v1, _⟩ := below_some h (m.length : Int) c
  have v1 := v1 (by omega)
  unfold spec_l01Pick.f
  rw [e, Option.bind_some, if_pos v0, if_pos v1]
  refine ⟨_, _, _, rfl, c', ?_⟩
  obtain ⟨n, rfl⟩ := Int.eq_ofNat_of_zero_le v0
  simp only [rdOf, Int.toNat_natCast, List.getD_eq_getElem?_getD]
  rw [List.getElem?_eq_getElem (by omega)]
  exact List.getElem_mem _
/-- From some number of rounds on it answers some text of bounded size. -/
def Ans (B : Nat) (g : Nat → Option ByteArray) : Prop := ∃ s : ByteArray, s.size ≤ B ∧ Ev g s
theorem Ans.step {B : Nat} {g : Nat → Option ByteArray} (f : Nat → Option ByteArray) (h : ∀ k, g (k + 1) = f k) (k : Ans B f) : Ans B g := by
  obtain ⟨s, hs, he⟩ := k; exact ⟨s, hs, Ev.step h he⟩
theorem end_ans (x : Int) (s : ByteArray) (i : Int) (l : List Int) (c h : Int) (hc : Cur l c) (hs : s.size ≤ 200000) (hx : ¬ i < x) : Ans 1000000 (fun k => spec_DrawSplitFields.l0 k x s i l c h) := by
  obtain ⟨v, c1, h1, e1, hc1, v0, v1, _⟩ := below_some h 12 hc
  have key : ∀ k, spec_DrawSplitFields.l0 (k + 1) x s i l c h = _ := fun k => by rw [spec_DrawSplitFields.l0, if_neg hx, e1, Option.bind_some]
  by_cases q0 : v = 0
  · obtain ⟨t, c2, h2, e2, hc2, ht⟩ := pick_some h1 [(⟨#[32]⟩ : ByteArray), (⟨#[32, 32]⟩ : ByteArray), (⟨#[9]⟩ : ByteArray), (⟨#[10]⟩ : ByteArray), (⟨#[127]⟩ : ByteArray), (⟨#[233]⟩ : ByteArray)] (by simp) hc1
    have ht2 : t.size ≤ 2 := by
      simp only [List.mem_cons, List.not_mem_nil, or_false] at ht
      rcases ht with rfl | rfl | rfl | rfl | rfl | rfl <;> decide
    refine ⟨s ++ t, by rw [ByteArray.size_append]; omega, Ev_at1 fun k => ?_⟩
    rw [key k, if_pos q0, e2, Option.bind_some, if_pos (by show s.size + t.size ≤ _; omega)]
  · by_cases q1 : v = 1
    · by_cases q2 : (s.size : Int) < 600
      · obtain ⟨y, c2, h2, e2, hc2, y0, y1, _⟩ := below_some h1 2 hc1
        have y1 := y1 (by omega)
        obtain ⟨r, hr, he⟩ := long_f (600 - (s.size : Int) + y) (by omega) (by omega) 32
        refine ⟨s ++ strOfNums r, by rw [ByteArray.size_append, strOfNums_size]; omega, ?_⟩
        refine Ev.step (f := fun k => (spec_l01Long.f k (600 - (s.size : Int) + y) 32).bind fun t208 => (if s.size + t208.size ≤ 9223372036854775807 then (some (s ++ t208)) else (none))) (fun k => ?_) (Ev.bind he (Ev_eq fun k => by rw [if_pos (by rw [strOfNums_size]; omega)]))
        rw [key k, if_neg q0, if_pos q1, if_pos q2, e2, Option.bind_some, wrap_id (n := 600 - (s.size : Int)) (by omega) (by omega), wrap_id (n := 600 - (s.size : Int) + y) (by omega) (by omega)]
      · exact ⟨s, by omega, Ev_at1 fun k => by rw [key k, if_neg q0, if_pos q1, if_neg q2]⟩
    · exact ⟨s, by omega, Ev_at1 fun k => by rw [key k, if_neg q0, if_neg q1]⟩
theorem l1_ans (x i : Int) (l : List Int) (hi0 : 0 ≤ i) (hi1 : i ≤ 1000) (next : ∀ (s : ByteArray) (c h : Int), s.size ≤ 30 + 100 * (i + 1) → Cur l c → Ans 1000000 (fun k => spec_DrawSplitFields.l0 k x s (i + 1) l c h)) :
    ∀ (d : Nat) (s : ByteArray) (j c h : Int), j + d = 5 → 0 ≤ j → (s.size : Int) ≤ 40 + 100 * i + j → Cur l c → Ans 1000000 (fun k => spec_DrawSplitFields.l1 k x s i j l c h) := by
  intro d
  induction d with
  | zero =>
    intro s j c h hj h0 hs hc
    obtain ⟨v, c1, h1, e1, hc1, v0, v1, _⟩ := below_some h 5 hc
    have v1 := v1 (by omega)
    refine Ans.step _ (fun k => ?_) (next s c1 h1 (by omega) hc1)
    rw [spec_DrawSplitFields.l1, e1, Option.bind_some, if_neg (by omega), wrap_id (n := i + 1) (by omega) (by omega)]
  | succ d ih =>
    intro s j c h hj h0 hs hc
    obtain ⟨v, c1, h1, e1, hc1, v0, v1, _⟩ := below_some h 5 hc
    have v1 := v1 (by omega)
    by_cases q : j ≤ v
    · obtain ⟨y, c2, h2, e2, hc2, y0, y1, _⟩ := below_some h1 94 hc1
      refine Ans.step _ (fun k => ?_) (ih (s ++ strOfNums [(wrap64 (33 + y)) % 256]) (j + 1) c2 h2 (by omega) (by omega) (by rw [ByteArray.size_append, strOfNums_size]; simp; omega) hc2)
      rw [spec_DrawSplitFields.l1, e1, Option.bind_some, if_pos q, e2, Option.bind_some, Option.bind_some, if_pos (by rw [strOfNums_size]; simp; omega), wrap_id (n := j + 1) (by omega) (by omega)]
    · refine Ans.step _ (fun k => ?_) (next s c1 h1 (by omega) hc1)
      rw [spec_DrawSplitFields.l1, e1, Option.bind_some, if_neg q, wrap_id (n := i + 1) (by omega) (by omega)]
theorem l0_ans (x : Int) (hx : x ≤ 30) (l : List Int) : ∀ (d : Nat) (i : Int) (s : ByteArray) (c h : Int), x ≤ i + d → 0 ≤ i → i ≤ 1000 → (s.size : Int) ≤ 30 + 100 * i → Cur l c → Ans 1000000 (fun k => spec_DrawSplitFields.l0 k x s i l c h) := by
  intro d
  induction d with
  | zero => intro i s c h hd h0 h1 hs hc; exact end_ans x s i l c h hc (by omega) (by omega)
  | succ d ih =>
    intro i s c h hd h0 h1 hs hc
    by_cases q : i < x
    · have j3 : ∀ (t : ByteArray) (c h : Int), (t.size : Int) ≤ 40 + 100 * i → Cur l c → Ans 1000000 (fun k => spec_DrawSplitFields.j3 k x t i l c h) := fun t c h ht hc =>
        Ans.step _ (fun k => by rw [spec_DrawSplitFields.j3]) (l1_ans x i l h0 h1 (fun s c h hs hc => ih (i + 1) s c h (by omega) (by omega) (by omega) (by omega) hc) 5 t 0 c h (by omega) (by omega) (by omega) hc)
      have j2 : ∀ (b : Bool) (c h : Int), Cur l c → Ans 1000000 (fun k => spec_DrawSplitFields.j2 k x s i b l c h) := by
        intro b c h hc
        cases b with
        | false => exact Ans.step _ (fun k => by rw [spec_DrawSplitFields.j2, if_neg (by simp)]) (j3 s c h (by omega) hc)
        | true =>
          obtain ⟨u, c1, g1, e1, hc1, u0, u1, _⟩ := below_some h 2 hc
          obtain ⟨w, c2, g2, e2, hc2, w0, w1, _⟩ := below_some g1 3 hc1
          have u1 := u1 (by omega)
          have w1 := w1 (by omega)
          have hu : u = 0 ∨ u = 1 := by omega
          have hm : 0 ≤ u * w ∧ u * w ≤ 2 := by rcases hu with rfl | rfl <;> omega
          obtain ⟨r, hr, he⟩ := long_f (1 + u * w) (by omega) (by omega) 32
          obtain ⟨t, ht, hev⟩ := j3 (s ++ strOfNums r) c2 g2 (by rw [ByteArray.size_append, strOfNums_size]; omega) hc2
          refine ⟨t, ht, Ev.step (f := fun k => (spec_l01Long.f k (1 + u * w) 32).bind fun t186 => (if s.size + t186.size ≤ 9223372036854775807 then (spec_DrawSplitFields.j3 k x (s ++ t186) i l c2 g2) else (none))) (fun k => ?_) (Ev.bind he (Ev.congr (fun k => by rw [if_pos (by rw [strOfNums_size]; omega)]) hev))⟩
          rw [spec_DrawSplitFields.j2, if_pos rfl, e1, Option.bind_some, e2, Option.bind_some, wrap_id (n := u * w) (by omega) (by omega), wrap_id (n := 1 + u * w) (by omega) (by omega)]
      by_cases p : i > 0
      · exact Ans.step _ (fun k => by rw [spec_DrawSplitFields.l0, if_pos q, if_pos p]) (j2 true c h hc)
      · obtain ⟨b, c1, h1, e1, hc1⟩ := once_some h 5 hc
        exact Ans.step _ (fun k => by rw [spec_DrawSplitFields.l0, if_pos q, if_neg p, e1, Option.bind_some]) (j2 b c1 h1 hc1)
    · exact end_ans x s i l c h hc (by omega) q
theorem draw_ev (l : List Int) (hl : l.length ≤ 1048576) : Ans 1000000 (fun k => spec_DrawSplitFields.f k l) := by
  obtain ⟨h, he⟩ := new_ev l hl
  obtain ⟨n, c1, h1, e1, hc1, n0, n1, _⟩ := below_some h 9 (cur0 l hl)
  have n1 := n1 (by omega)
  obtain ⟨o, c2, h2, e2, hc2⟩ := once_some h1 15 hc1
  have j0 : ∀ (x c h : Int), x ≤ 30 → Cur l c → Ans 1000000 (fun k => spec_DrawSplitFields.j0 k x l c h) := fun x c h hx hc =>
    Ans.step _ (fun k => by rw [spec_DrawSplitFields.j0]) (l0_ans x hx l 30 0 ⟨#[]⟩ c h (by omega) (by omega) (by omega) (by simp [ByteArray.size]) hc)
  cases o with
  | true =>
    obtain ⟨y, c3, h3, e3, hc3, y0, y1, _⟩ := below_some h2 2 hc2
    have y1 := y1 (by omega)
    obtain ⟨t, ht, hev⟩ := j0 (24 + y) c3 h3 (by omega) hc3
    refine ⟨t, ht, Ev.bind he (Ev.congr (fun k => ?_) hev)⟩
    simp only [e1, e2, e3, Option.bind_some, if_true]
    rw [wrap_id (n := 24 + y) (by omega) (by omega)]
  | false =>
    obtain ⟨t, ht, hev⟩ := j0 n c2 h2 (by omega) hc2
    refine ⟨t, ht, Ev.bind he (Ev.congr (fun k => ?_) hev)⟩
    simp only [e1, e2, Option.bind_some, Bool.false_eq_true, if_false]
theorem bt_list (s : ByteArray) (i : Nat) (h : i < s.data.toList.length) : bt s (i : Int) = ((s.data.toList[i]).toNat : Int) := by
  have hs : i < s.size := by rw [Lib.size_eq]; exact h
  rw [bt, dif_pos (by simpa using hs)]
  simp; rfl
theorem rdOf_get (L : List ByteArray) (i : Nat) (t : ByteArray) (h : L[i]? = some t) : rdOf ByteArray.empty L (i : Int) = t := by
  simp [rdOf, List.getD, h]
theorem Ev_shift {α : Type} {g : Nat → Option α} {r : α} (h : Ev g r) : Ev (fun k => g (k + 1)) r := by
  obtain ⟨K, h⟩ := h; exact ⟨K, fun k hk => h (k + 1) (by omega)⟩
theorem Ev_unshift3 {α : Type} {g : Nat → Option α} {r : α} (h : Ev (fun k => g (k + 1 + 1 + 1)) r) : Ev g r := by
  obtain ⟨K, h⟩ := h
  exact ⟨K + 3, fun k hk => by obtain ⟨j, rfl⟩ : ∃ j, k = j + 1 + 1 + 1 := ⟨k - 3, by omega⟩; exact h j (by omega)⟩
/-! Words of a line. -/
def sp : List UInt8 → List UInt8 → List (List UInt8)
  | cur, [] => [cur]
  | cur, c :: r => if c = 32 then cur :: sp [] r else sp (cur ++ [c]) r
def sw : List UInt8 → List UInt8 → List (List UInt8)
  | cur, [] => if cur = [] then [] else [cur]
  | cur, c :: r => if c = 32 then (if cur = [] then sw [] r else cur :: sw [] r) else sw (cur ++ [c]) r
theorem sp_sw : ∀ (l cur : List UInt8), (sp cur l).filter (fun p => decide (p ≠ [])) = sw cur l
  | [], cur => by rw [sp, sw]; by_cases h : cur = [] <;> simp [h]
  | c :: r, cur => by
    rw [sp, sw]
    by_cases h : c = 32
    · rw [if_pos h, if_pos h, List.filter_cons, sp_sw r []]
      by_cases e : cur = [] <;> simp [e]
    · rw [if_neg h, if_neg h, sp_sw r]
theorem sp_no : ∀ (l cur : List UInt8), (∀ k : Nat, l[k]? ≠ some 32) → sp cur l = [cur ++ l]
  | [], cur, _ => by rw [sp, List.append_nil]
  | c :: r, cur, h => by
    rw [sp, if_neg (fun e => h 0 (by rw [e]; rfl)), sp_no r _ (fun k => h (k + 1))]
    simp
theorem sp_hit : ∀ (i : Nat) (l cur : List UInt8), l[i]? = some 32 → (∀ k : Nat, k < i → l[k]? ≠ some 32) → sp cur l = (cur ++ l.take i) :: sp [] (l.drop (i + 1))
  | 0, l, cur, h, _ => by
    match l, h with
    | c :: r, h => simp at h; subst h; rw [sp, if_pos rfl]; simp
  | i + 1, l, cur, h, hk => by
    match l, h, hk with
    | c :: r, h, hk =>
      rw [sp, if_neg (fun e => hk 0 (by omega) (by rw [e]; rfl)), sp_hit i r _ (by simpa using h) (fun k q => by simpa using hk (k + 1) (by omega))]
      simp
theorem split_sp : ∀ (n : Nat) (s : ByteArray), s.size ≤ n → (Lib.splitB ⟨#[32]⟩ 0 (Lib.countB s ⟨#[32]⟩) s).map (·.data.toList) = sp [] s.data.toList := by
  intro n
  induction n with
  | zero =>
    intro s hs
    have h0 : s.data.toList = [] := List.eq_nil_of_length_eq_zero (by rw [← Lib.size_eq]; omega)
    rcases Lib.indexB_cases s ⟨#[32]⟩ with h | ⟨i, h, hi⟩
    · rw [Lib.countB_miss _ _ h, Lib.splitB_zero, h0]; simp [sp, h0]
    · have : (⟨#[32]⟩ : ByteArray).size = 1 := rfl
      omega
  | succ n ih =>
    intro s hs
    have h1 : (⟨#[32]⟩ : ByteArray).size = 1 := rfl
    rcases Lib.indexB_cases s ⟨#[32]⟩ with h | ⟨i, h, hi⟩
    · rw [Lib.countB_miss _ _ h, Lib.splitB_zero]
      have hb : Lib.indexByte s.data.toList 32 = -1 := by rw [← Lib.index_one]; exact h
      rw [sp_no _ _ (fun k => Lib.indexByte_none hb k)]; rfl
    · have hb : Lib.indexByte s.data.toList 32 = (i : Int) := by rw [← Lib.index_one]; exact h
      obtain ⟨e1, e2⟩ := Lib.indexByte_some hb
      rw [Lib.countB_hit s _ i (by omega) h, Nat.add_comm, Lib.splitB_hit _ _ _ _ i h, List.map_cons, h1, ih _ (by simp [ByteArray.size_extract]; omega), sp_hit i _ [] e1 e2]
      have e3 : (s.data.toList.drop (i + 1)).take (s.size - (i + 1)) = s.data.toList.drop (i + 1) := List.take_of_length_le (by rw [List.length_drop, Lib.size_eq]; omega)
      rw [Lib.extract_data, Lib.extract_data, e3]
      simp

def okc (c : UInt8) : Prop := 32 ≤ c.toNat ∧ c.toNat ≤ 126
instance (c : UInt8) : Decidable (okc c) := by unfold okc; infer_instance
def fin24 (o : List ByteArray) : List ByteArray × Bool := if (o.length : Int) > 24 then ([], false) else (o, true)
def ne (p : ByteArray) : Bool := decide (p.data.toList ≠ [])
/-! impl.SplitFields. -/
theorem pick_loop (P : List ByteArray) (hP : P.length ≤ 1000000) : ∀ (d i : Nat) (out : List ByteArray), i + d = P.length → out.length ≤ i →
    Ev (fun k => impl_SplitFields.l1 k out P (P.length : Int) (i : Int)) (fin24 (out ++ (P.drop i).filter ne)) := by
  intro d
  induction d with
  | zero =>
    intro i out hi ho
    refine Ev_at1 fun k => ?_
    rw [impl_SplitFields.l1, if_neg (by omega), List.drop_of_length_le (by omega), List.filter_nil, List.append_nil, fin24]
    split <;> rfl
  | succ d ih =>
    intro i out hi ho
    have hlt : i < P.length := by omega
    rw [List.drop_eq_getElem_cons hlt, List.filter_cons]
    have e := rdOf_get P i P[i] (List.getElem?_eq_getElem hlt)
    generalize P[i] = p at e ⊢
    by_cases c : p.data.toList = []
    · have hn : ne p = false := by simp [ne, c]
      rw [hn, if_neg (by simp)]
      refine Ev_round _ (fun k => ?_) (ih (i + 1) out (by omega) (by omega))
      rw [impl_SplitFields.l1, if_pos (by omega), if_pos (by omega), if_pos (by omega), e, if_pos (by rw [Lib.toList_data]; exact c), wrap_id (n := (i : Int) + 1) (by omega) (by omega)]
      rfl
    · have hn : ne p = true := by simp [ne, c]
      rw [hn, if_pos rfl]
      have := ih (i + 1) (out ++ [p]) (by omega) (by simp; omega)
      rw [List.append_assoc] at this
      refine Ev_round _ (fun k => ?_) this
      rw [impl_SplitFields.l1, if_pos (by omega), if_pos (by omega), if_pos (by omega), e, if_neg (by rw [Lib.toList_data]; exact c), if_pos (by omega), wrap_id (n := (i : Int) + 1) (by omega) (by omega)]
      rfl
theorem chars_loop (s : ByteArray) (hs : s.size ≤ 1000000) (R : List ByteArray × Bool) (hR : Ev (fun k => (strings_Split.f s (⟨#[32]⟩ : ByteArray)).bind fun t119 => (impl_SplitFields.l1 k (([] : List ByteArray)) t119 (t119.length : Int) 0)) R) :
    ∀ (d i : Nat), i + d = s.data.toList.length → ((∀ c ∈ s.data.toList.drop i, okc c) → Ev (fun k => impl_SplitFields.l0 k s (i : Int)) R) ∧ ((∃ c ∈ s.data.toList.drop i, ¬ okc c) → Ev (fun k => impl_SplitFields.l0 k s (i : Int)) ([], false)) := by
  have hz : (s.size : Int) = (s.data.toList.length : Int) := by rw [Lib.size_eq]
  intro d
  induction d with
  | zero =>
    intro i hi
    refine ⟨fun _ => ?_, fun ⟨c, hc, _⟩ => ?_⟩
    · refine Ev.step (f := fun k => (strings_Split.f s (⟨#[32]⟩ : ByteArray)).bind fun t119 => (impl_SplitFields.l1 k (([] : List ByteArray)) t119 (t119.length : Int) 0)) (fun k => ?_) hR
      rw [impl_SplitFields.l0, if_neg (by omega)]
    · rw [List.drop_of_length_le (by omega)] at hc; simp at hc
  | succ d ih =>
    intro i hi
    have hlt : i < s.data.toList.length := by omega
    have e0 := bt_list s i hlt
    rw [List.drop_eq_getElem_cons hlt]
    generalize s.data.toList[i] = c at e0 ⊢
    have step : okc c → ∀ k, impl_SplitFields.l0 (k + 1) s (i : Int) = impl_SplitFields.l0 k s ((i + 1 : Nat) : Int) := by
      intro h k
      rw [impl_SplitFields.l0, if_pos (by omega), if_pos (by omega), e0, if_neg (by unfold okc at h; omega), if_neg (by unfold okc at h; omega), wrap_id (n := (i : Int) + 1) (by omega) (by omega)]
      rfl
    have bad : ¬ okc c → Ev (fun k => impl_SplitFields.l0 k s (i : Int)) ([], false) := by
      intro h
      refine Ev_at1 fun k => ?_
      rw [impl_SplitFields.l0, if_pos (by omega), if_pos (by omega), e0]
      by_cases q : (c.toNat : Int) < 32
      · rw [if_pos q]
      · rw [if_neg q, if_pos (by unfold okc at h; omega)]
    refine ⟨fun h => ?_, fun ⟨b, hb, hn⟩ => ?_⟩
    · exact Ev_round _ (step (h c (by simp))) ((ih (i + 1) (by omega)).1 fun b hb => h b (List.mem_cons_of_mem _ hb))
    · by_cases q : okc c
      · refine Ev_round _ (step q) ((ih (i + 1) (by omega)).2 ⟨b, ?_, hn⟩)
        rcases List.mem_cons.1 hb with e | e
        · subst e; exact absurd q hn
        · exact e
      · exact bad q
/-- The words of a text. -/
def words (s : ByteArray) : List ByteArray := (sw [] s.data.toList).map tx
theorem split_words (s : ByteArray) : (Lib.splitB ⟨#[32]⟩ 0 (Lib.countB s ⟨#[32]⟩) s).filter ne = words s := by
  have h := split_sp s.size s (Nat.le_refl _)
  have e : ∀ P : List ByteArray, P.filter ne = (((P.map (·.data.toList)).filter (fun p => decide (p ≠ []))).map tx) := by
    intro P
    induction P with
    | nil => rfl
    | cons p r ih =>
      rw [List.filter_cons, ih, List.map_cons, List.filter_cons, ne]
      by_cases c : p.data.toList = []
      · simp [c]
      · simp [c, tx_data]
  rw [e, h, sp_sw, words]
theorem isplit_ev (s : ByteArray) (hs : s.size ≤ 600) : Ev (fun k => impl_SplitFields.f k s) (if ∀ c ∈ s.data.toList, okc c then fin24 (words s) else ([], false)) := by
  have hR : Ev (fun k => (strings_Split.f s (⟨#[32]⟩ : ByteArray)).bind fun t119 => (impl_SplitFields.l1 k (([] : List ByteArray)) t119 (t119.length : Int) 0)) (fin24 (words s)) := by
    have hlen : (Lib.splitB ⟨#[32]⟩ 0 (Lib.countB s ⟨#[32]⟩) s).length = Lib.countB s ⟨#[32]⟩ + 1 := Lib.splitB_all _ (by decide) 0 _ _ rfl
    have hle : Lib.countB s ⟨#[32]⟩ ≤ s.size := Lib.countB_le _ (by decide) s.size s (Nat.le_refl _)
    have hp := pick_loop (Lib.splitB ⟨#[32]⟩ 0 (Lib.countB s ⟨#[32]⟩) s) (by omega) _ 0 [] (by rw [Nat.zero_add]) (by simp)
    rw [List.drop_zero, List.nil_append, split_words] at hp
    refine Ev.congr (fun k => ?_) hp
    rw [strings_Split.f, if_pos ⟨by omega, by decide⟩, Option.bind_some]
    rfl
  have hc := chars_loop s (by omega) _ hR s.data.toList.length 0 (by omega)
  rw [List.drop_zero] at hc
  have hf : ∀ k, impl_SplitFields.f k s = impl_SplitFields.l0 k s ((0 : Nat) : Int) := fun k => by rw [impl_SplitFields.f, if_neg (by omega)]; rfl
  refine Ev.congr hf ?_
  by_cases A : ∀ c ∈ s.data.toList, okc c
  · rw [if_pos A]; exact hc.1 A
  · rw [if_neg A]
    exact hc.2 (by simpa using A)
/-! spec.SplitFields. -/
theorem extract_tx (s : ByteArray) (b i : Nat) : s.extract b i = tx ((s.data.toList.drop b).take (i - b)) := by
  rw [Lib.extract_eq]; rfl
theorem s_ne (s : ByteArray) (hs : s.size ≤ 1000000) (i b : Nat) (out : List ByteArray) (c : UInt8) (hi : i < s.size) (e0 : bt s (i : Int) = (c.toNat : Int)) (h : okc c) (hc : c ≠ 32) (k : Nat) :
    spec_SplitFields.l0 (k + 1 + 1 + 1) s out (b : Int) (i : Int) = spec_SplitFields.l0 k s out (b : Int) ((i + 1 : Nat) : Int) := by
  obtain ⟨h1, h2⟩ := h
  have hn : ¬ (c.toNat : Int) = 32 := fun e => hc (UInt8.toNat_inj.mp (show c.toNat = 32 from by omega))
  rw [spec_SplitFields.l0, if_pos (by omega), if_pos (by omega), if_pos (by omega), e0, if_neg (by omega), decide_eq_false (by omega), spec_SplitFields.j1, if_neg (by simp), if_pos (by omega), if_pos (by omega), e0, spec_SplitFields.j2, if_pos (bne_iff_ne.mpr hn), wrap_id (n := (i : Int) + 1) (by omega) (by omega)]
  rfl
theorem s_sp (s : ByteArray) (hs : s.size ≤ 1000000) (i b : Nat) (out : List ByteArray) (hb : b ≤ i) (ho : out.length ≤ 1000000) (hi : (i < s.size ∧ bt s (i : Int) = 32) ∨ i = s.size) (k : Nat) :
    spec_SplitFields.l0 (k + 1 + 1 + 1) s out (b : Int) (i : Int) = spec_SplitFields.l0 k s (if b < i then out ++ [s.extract b i] else out) ((i + 1 : Nat) : Int) ((i + 1 : Nat) : Int) := by
  have e2 : ∀ j, spec_SplitFields.j2 (j + 1) s out (b : Int) (i : Int) false = spec_SplitFields.l0 j s (if b < i then out ++ [s.extract b i] else out) ((i + 1 : Nat) : Int) ((i + 1 : Nat) : Int) := by
    intro j
    have hle : i ≤ s.size := by rcases hi with ⟨h, _⟩ | h <;> omega
    rw [spec_SplitFields.j2, if_neg (by simp)]
    by_cases c : b < i
    · rw [if_pos (by omega), if_pos (by omega), if_pos (by omega), if_pos (by omega), if_pos (by omega), if_pos c, wrap_id (n := (i : Int) + 1) (by omega) (by omega)]
      rfl
    · rw [if_neg (by omega), if_neg c, wrap_id (n := (i : Int) + 1) (by omega) (by omega)]
      rfl
  rcases hi with ⟨hi, e0⟩ | hi
  · rw [spec_SplitFields.l0, if_pos (by omega), if_pos (by omega), if_pos (by omega), e0, if_neg (by omega), decide_eq_false (by omega), spec_SplitFields.j1, if_neg (by simp), if_pos (by omega), if_pos (by omega), e0, show ((32 : Int) != 32) = false from rfl, e2]
  · rw [spec_SplitFields.l0, if_pos (by omega), if_neg (by omega), spec_SplitFields.j1, if_neg (by simp), if_neg (by omega), e2]
theorem s_bad (s : ByteArray) (i b : Nat) (out : List ByteArray) (c : UInt8) (hi : i < s.size) (e0 : bt s (i : Int) = (c.toNat : Int)) (h : ¬ okc c) (k : Nat) :
    spec_SplitFields.l0 (k + 1 + 1 + 1) s out (b : Int) (i : Int) = some ([], false) := by
  rw [spec_SplitFields.l0, if_pos (by omega), if_pos (by omega), if_pos (by omega), e0]
  by_cases q : (c.toNat : Int) < 32
  · rw [if_pos q, spec_SplitFields.j1, if_pos rfl]
  · rw [if_neg q, decide_eq_true (by unfold okc at h; omega), spec_SplitFields.j1, if_pos rfl]
theorem line_loop (s : ByteArray) (hs : s.size ≤ 1000000) : ∀ (d i b : Nat) (out : List ByteArray), i + d = s.data.toList.length → b ≤ i → out.length ≤ i →
    ((∀ c ∈ s.data.toList.drop i, okc c) → Ev (fun k => spec_SplitFields.l0 k s out (b : Int) (i : Int)) (fin24 (out ++ (sw ((s.data.toList.drop b).take (i - b)) (s.data.toList.drop i)).map tx))) ∧
    ((∃ c ∈ s.data.toList.drop i, ¬ okc c) → Ev (fun k => spec_SplitFields.l0 k s out (b : Int) (i : Int)) ([], false)) := by
  have hz : s.size = s.data.toList.length := Lib.size_eq s
  intro d
  induction d with
  | zero =>
    intro i b out hi hb ho
    have hcur : ((s.data.toList.drop b).take (i - b) = []) ↔ ¬ b < i := by
      rw [← List.length_eq_zero_iff, List.length_take, List.length_drop]; omega
    refine ⟨fun _ => ?_, fun ⟨c, hc, _⟩ => ?_⟩
    · refine Ev_unshift3 (Ev.congr (fun k => s_sp s hs i b out hb (by omega) (.inr (by omega)) k) ?_)
      rw [List.drop_of_length_le (show s.data.toList.length ≤ i by omega), sw]
      have fine : ∀ o : List ByteArray, Ev (fun k => spec_SplitFields.l0 k s o ((i + 1 : Nat) : Int) ((i + 1 : Nat) : Int)) (fin24 o) := by
        intro o
        refine Ev_at1 fun k => ?_
        rw [spec_SplitFields.l0, if_neg (by omega), fin24]
        split <;> rfl
      by_cases c : b < i
      · rw [if_pos c, if_neg (fun e => (hcur.1 e) c), extract_tx]
        exact fine _
      · rw [if_neg c, if_pos (hcur.2 c)]
        simpa using fine out
    · rw [List.drop_of_length_le (by omega)] at hc; simp at hc
  | succ d ih =>
    intro i b out hi hb ho
    have hlt : i < s.data.toList.length := by omega
    have e0 := bt_list s i hlt
    have hcur : ((s.data.toList.drop b).take (i - b) = []) ↔ ¬ b < i := by
      rw [← List.length_eq_zero_iff, List.length_take, List.length_drop]; omega
    have hnext : (s.data.toList.drop b).take (i + 1 - b) = (s.data.toList.drop b).take (i - b) ++ [s.data.toList[i]] := by
      rw [show i + 1 - b = (i - b) + 1 by omega, List.take_succ_eq_append_getElem (by rw [List.length_drop]; omega)]
      congr 1
      simp only [List.getElem_drop]
      congr 2; omega
    rw [List.drop_eq_getElem_cons hlt]
    generalize s.data.toList[i] = c at e0 hnext ⊢
    have hol : (if b < i then out ++ [s.extract b i] else out).length ≤ i + 1 := by
      split
      · rw [List.length_append, List.length_singleton]; omega
      · omega
    refine ⟨fun h => ?_, fun ⟨x, hx, hn⟩ => ?_⟩
    · have hk : okc c := h c (by simp)
      have hr : ∀ x ∈ s.data.toList.drop (i + 1), okc x := fun x hx => h x (List.mem_cons_of_mem _ hx)
      rw [sw]
      by_cases q : c = 32
      · rw [if_pos q]
        refine Ev_unshift3 (Ev.congr (fun k => s_sp s hs i b out hb (by omega) (.inl ⟨by omega, by rw [e0, q]; rfl⟩) k) ?_)
        have := (ih (i + 1) (i + 1) (if b < i then out ++ [s.extract b i] else out) (by omega) (Nat.le_refl _) hol).1 hr
        rw [Nat.sub_self, List.take_zero] at this
        by_cases w : b < i
        · rw [if_pos w] at this ⊢
          rw [if_neg (fun e => (hcur.1 e) w), List.map_cons, ← extract_tx]
          rw [List.append_assoc] at this
          exact this
        · rw [if_neg w] at this ⊢
          rw [if_pos (hcur.2 w)]
          exact this
      · rw [if_neg q]
        refine Ev_unshift3 (Ev.congr (fun k => s_ne s hs i b out c (by omega) e0 hk q k) ?_)
        have := (ih (i + 1) b out (by omega) (by omega) (by omega)).1 hr
        rw [hnext] at this
        exact this
    · by_cases hk : okc c
      · have hx' : ∃ x ∈ s.data.toList.drop (i + 1), ¬ okc x := by
          rcases List.mem_cons.1 hx with e | e
          · subst e; exact absurd hk hn
          · exact ⟨x, e, hn⟩
        by_cases q : c = 32
        · exact Ev_unshift3 (Ev.congr (fun k => s_sp s hs i b out hb (by omega) (.inl ⟨by omega, by rw [e0, q]; rfl⟩) k) ((ih (i + 1) (i + 1) _ (by omega) (Nat.le_refl _) hol).2 hx'))
        · exact Ev_unshift3 (Ev.congr (fun k => s_ne s hs i b out c (by omega) e0 hk q k) ((ih (i + 1) b out (by omega) (by omega) (by omega)).2 hx'))
      · exact Ev_unshift3 (Ev_eq fun k => s_bad s i b out c (by omega) e0 hk k)
theorem ssplit_ev (s : ByteArray) (hs : s.size ≤ 600) : Ev (fun k => spec_SplitFields.f k s) (if ∀ c ∈ s.data.toList, okc c then fin24 (words s) else ([], false)) := by
  have hc := line_loop s (by omega) s.data.toList.length 0 0 [] (by omega) (Nat.le_refl _) (Nat.le_refl _)
  rw [List.drop_zero] at hc
  have hf : ∀ k, spec_SplitFields.f k s = spec_SplitFields.l0 k s [] ((0 : Nat) : Int) ((0 : Nat) : Int) := fun k => by rw [spec_SplitFields.f, Option.bind_some, if_neg (by omega)]; rfl
  refine Ev.congr hf ?_
  by_cases A : ∀ c ∈ s.data.toList, okc c
  · rw [if_pos A]; have := hc.1 A; simpa [words] using this
  · rw [if_neg A]; exact hc.2 (by simpa using A)
theorem itoa_len (n : Int) (h : (Lit.int .i64 n).wf = true) : (Lib.itoa n).length ≤ 21 := Lib.itoa_length_le n (wf_i64 h).1 (wf_i64 h).2
theorem ifmt_eq (k : Nat) (n : Int) (h : (Lit.int .i64 n).wf = true) : impl_FormatInt.f k n = some (tx (Lib.itoa n)) := by
  rw [impl_FormatInt.f, if_pos h]; rfl
def okw (c : UInt8) : Prop := okc c ∧ c ≠ 32
theorem sw_mem : ∀ (l cur : List UInt8), (∀ c ∈ cur, okw c) → (∀ c ∈ l, okc c) → ∀ w ∈ sw cur l, w ≠ [] ∧ (∀ c ∈ w, okw c) ∧ w.length ≤ cur.length + l.length
  | [], cur, hc, _, w, hw => by
    rw [sw] at hw
    by_cases e : cur = []
    · rw [if_pos e] at hw; simp at hw
    · rw [if_neg e] at hw
      have : w = cur := by simpa using hw
      subst this
      exact ⟨e, hc, by simp⟩
  | c :: r, cur, hc, hl, w, hw => by
    have hr : ∀ x ∈ r, okc x := fun x hx => hl x (List.mem_cons_of_mem _ hx)
    rw [sw] at hw
    by_cases q : c = 32
    · rw [if_pos q] at hw
      by_cases e : cur = []
      · rw [if_pos e] at hw
        obtain ⟨a, b, d⟩ := sw_mem r [] (by simp) hr w hw
        exact ⟨a, b, by simp at d ⊢; omega⟩
      · rw [if_neg e] at hw
        rcases List.mem_cons.1 hw with h | h
        · subst h; exact ⟨e, hc, by simp⟩
        · obtain ⟨a, b, d⟩ := sw_mem r [] (by simp) hr w h
          exact ⟨a, b, by simp at d ⊢; omega⟩
    · rw [if_neg q] at hw
      obtain ⟨a, b, d⟩ := sw_mem r (cur ++ [c]) (fun x hx => by
        rcases List.mem_append.1 hx with h | h
        · exact hc x h
        · have : x = c := by simpa using h
          subst this; exact ⟨hl x (by simp), q⟩) hr w hw
      exact ⟨a, b, by simp at d ⊢; omega⟩
def join (ws : List (List UInt8)) : List UInt8 := ws.flatMap fun w => w ++ [32]
theorem sw_word : ∀ (w cur r : List UInt8), (∀ c ∈ w, okw c) → sw cur (w ++ 32 :: r) = if cur ++ w = [] then sw [] r else (cur ++ w) :: sw [] r
  | [], cur, r, _ => by simp [sw]
  | c :: w, cur, r, h => by
    show sw cur (c :: (w ++ 32 :: r)) = _
    rw [sw, if_neg (h c (by simp)).2, sw_word w _ r (fun x hx => h x (List.mem_cons_of_mem _ hx))]
    simp
theorem sw_join : ∀ ws : List (List UInt8), (∀ w ∈ ws, w ≠ [] ∧ ∀ c ∈ w, okw c) → sw [] (join ws) = ws
  | [], _ => rfl
  | w :: ws, h => by
    have hw := h w (by simp)
    have : join (w :: ws) = w ++ 32 :: join ws := by simp [join]
    rw [this, sw_word w [] _ hw.2, List.nil_append, if_neg hw.1, sw_join ws (fun x hx => h x (List.mem_cons_of_mem _ hx))]
theorem join_snoc (ws : List (List UInt8)) (w : List UInt8) : join (ws ++ [w]) = join ws ++ w ++ [32] := by simp [join]
theorem join_ok (ws : List (List UInt8)) (h : ∀ w ∈ ws, ∀ c ∈ w, okw c) : ∀ c ∈ join ws, okc c := by
  intro c hc
  obtain ⟨w, hw, hx⟩ := List.mem_flatMap.1 hc
  rcases List.mem_append.1 hx with q | q
  · exact (h w hw c q).1
  · have : c = 32 := by simpa using q
    subst this; exact ⟨by decide, by decide⟩
theorem join_len (ws : List (List UInt8)) (h : ∀ w ∈ ws, w.length ≤ 600) : (join ws).length ≤ 601 * ws.length := by
  induction ws with
  | nil => simp [join]
  | cons w r ih =>
    have h1 := h w (by simp)
    have := ih (fun x hx => h x (List.mem_cons_of_mem _ hx))
    have e : join (w :: r) = w ++ 32 :: join r := by simp [join]
    rw [e]; simp; omega
theorem same_loop (L : List ByteArray) (hl : L.length ≤ 1000000) : ∀ (d i : Nat), i + d = L.length → Ev (fun k => laws_sameTexts.l0 k L L (i : Int)) true := by
  intro d
  induction d with
  | zero => intro i hi; exact Ev_at1 fun k => by rw [laws_sameTexts.l0, if_neg (by omega)]
  | succ d ih =>
    intro i hi
    refine Ev_round _ (fun k => ?_) (ih (i + 1) (by omega))
    rw [laws_sameTexts.l0, if_pos (by omega), if_pos (by omega), if_pos (by omega), if_pos rfl, wrap_id (n := (i : Int) + 1) (by omega) (by omega)]
    rfl
theorem same_ev (L : List ByteArray) (hl : L.length ≤ 1000000) : Ev (fun k => laws_sameTexts.f k L L) true :=
  Ev.congr (fun k => by rw [laws_sameTexts.f, if_pos rfl]; rfl) (same_loop L hl L.length 0 (by omega))
theorem again (Wl : List (List UInt8)) (hn : Wl.length ≤ 24) (h : ∀ w ∈ Wl, w ≠ [] ∧ (∀ c ∈ w, okw c) ∧ w.length ≤ 600) :
    Ev (fun k => (impl_SplitFields.f k (tx (join Wl))).bind fun bt223 => (if true = true then (if ((tx (join Wl)).size : Int) > 600 then (some true) else (if bt223.2 = true then ((laws_sameTexts.f k (Wl.map tx) bt223.1).bind fun t227 => (some t227)) else (some false))) else (some false))) true := by
  by_cases c : ((tx (join Wl)).size : Int) > 600
  · refine Ev_eq fun k => ?_
    rw [impl_SplitFields.f, if_pos c, Option.bind_some, if_pos rfl, if_pos c]
  · have hi := isplit_ev (tx (join Wl)) (by omega)
    have hd : (tx (join Wl)).data.toList = join Wl := by simp [tx]
    have hw : words (tx (join Wl)) = Wl.map tx := by rw [words, hd, sw_join Wl (fun w hw => ⟨(h w hw).1, (h w hw).2.1⟩)]
    rw [if_pos (by rw [hd]; exact join_ok Wl (fun w hw => (h w hw).2.1)), hw, fin24, if_neg (by rw [List.length_map]; omega)] at hi
    refine Ev.bind hi ?_
    refine Ev.congr (fun k => by rw [if_pos rfl, if_neg c, if_pos rfl]) (Ev.bind (same_ev (Wl.map tx) (by rw [List.length_map]; omega)) (Ev_eq fun k => rfl))
theorem fields_loop (Wl : List (List UInt8)) (hn : Wl.length ≤ 24) (h : ∀ w ∈ Wl, w ≠ [] ∧ (∀ c ∈ w, okw c) ∧ w.length ≤ 600) : ∀ (d i : Nat), i + d = Wl.length →
    Ev (fun k => laws_FnFieldsAgain.l0 k (Wl.map tx) true (tx (join (Wl.take i))) (i : Int)) true := by
  intro d
  induction d with
  | zero =>
    intro i hi
    have := again Wl hn h
    rw [List.take_of_length_le (by omega)]
    refine Ev.step (f := fun k => (impl_SplitFields.f k (tx (join Wl))).bind fun bt223 => (if true = true then (if ((tx (join Wl)).size : Int) > 600 then (some true) else (if bt223.2 = true then ((laws_sameTexts.f k (Wl.map tx) bt223.1).bind fun t227 => (some t227)) else (some false))) else (some false))) (fun k => ?_) this
    rw [laws_FnFieldsAgain.l0, if_neg (by rw [List.length_map]; omega)]
  | succ d ih =>
    intro i hi
    have hlt : i < Wl.length := by omega
    have e : rdOf ByteArray.empty (Wl.map tx) (i : Int) = tx Wl[i] := rdOf_get _ _ _ (by rw [List.getElem?_map, List.getElem?_eq_getElem hlt]; rfl)
    have hjl := join_len (Wl.take i) (fun w hw => (h w (List.mem_of_mem_take hw)).2.2)
    rw [List.length_take] at hjl
    have hwl := (h Wl[i] (List.getElem_mem _)).2.2
    have hnext := ih (i + 1) (by omega)
    rw [List.take_succ_eq_append_getElem hlt, join_snoc] at hnext
    refine Ev_round _ (fun k => ?_) hnext
    have e1 : (⟨#[32]⟩ : ByteArray) = tx [32] := rfl
    rw [laws_FnFieldsAgain.l0, if_pos (by rw [List.length_map]; omega), if_pos (by omega), e, if_pos (by rw [tx_size, tx_size]; omega), if_pos (by rw [ByteArray.size_append, tx_size, tx_size]; omega), wrap_id (n := (i : Int) + 1) (by omega) (by omega), e1, tx_append, tx_append]
    rfl
theorem main : ∀ (l : List Int), l.length ≤ maxLen → l.length * 1 ≤ 140737488351232 → (∀ n ∈ l, (Lit.int .u8 n).wf = true) → ∃ k, laws_FnFieldsAgain.f k l = some true := by
  intro l _ _ _
  refine Ev.rounds ?_
  unfold laws_FnFieldsAgain.f
  by_cases hb : (l.length : Int) > 1048576
  · exact Ev_eq fun k => by simp [big_eq, hb]
  · obtain ⟨s, hs, he⟩ := draw_ev l (by omega)
    refine Ev.congr (fun k => by rw [big_eq, Option.bind_some, if_neg (by simpa using hb)]) (Ev.bind he ?_)
    have w3 : (Lit.int .i64 (-3)).wf = true := by decide
    have e3 : (tx (Lib.itoa (-3))).toList = [45, 51] := by rw [Lib.toList_data]; simp only [tx]; rw [Lib.itoa, if_pos (by omega), show (-3 : Int).natAbs = 3 from rfl, Lib.decDigits_one (by decide)]; rfl
    have bad : Ev (fun k => impl_SplitFields.f k s) ([], false) → Ev (fun k => spec_SplitFields.f k s) ([], false) →
        Ev (fun k => (impl_SplitFields.f k s).bind fun bt213 => ((spec_SplitFields.f k s).bind fun bt217 => (if bt217.2 = true then (laws_FnFieldsAgain.l0 k bt213.1 bt213.2 (⟨#[]⟩ : ByteArray) 0) else (if bt213.2 = true then (some false) else (if (bt213.1.length : Int) = 0 then ((impl_FormatInt.f k (-3)).bind fun t221 => (some (t221.toList == ([45, 51] : List UInt8)))) else (some false)))))) true := fun h1 h2 =>
      Ev.bind h1 (Ev.bind h2 (Ev_eq fun k => by rw [if_neg (by simp), if_neg (by simp), if_pos (by simp), ifmt_eq k (-3) w3, Option.bind_some, e3]; rfl))
    by_cases c : (s.size : Int) > 600
    · refine bad (Ev_eq fun k => ?_) (Ev_eq fun k => ?_)
      · rw [impl_SplitFields.f, if_pos c]
      · rw [spec_SplitFields.f, Option.bind_some, if_pos c]
    · have hS := ssplit_ev s (by omega)
      have hI := isplit_ev s (by omega)
      have hz : s.size = s.data.toList.length := Lib.size_eq s
      by_cases A : ∀ c ∈ s.data.toList, okc c
      · rw [if_pos A] at hS hI
        by_cases q : ((words s).length : Int) > 24
        · rw [fin24, if_pos q] at hS hI
          exact bad hI hS
        · rw [fin24, if_neg q] at hS hI
          have hw : words s = (sw [] s.data.toList).map tx := rfl
          have hlen : (sw [] s.data.toList).length ≤ 24 := by rw [hw, List.length_map] at q; omega
          have hf := fields_loop (sw [] s.data.toList) hlen (fun w hx => by
            obtain ⟨a, b, d⟩ := sw_mem s.data.toList [] (by simp) A w hx
            exact ⟨a, b, by simp at d; omega⟩) (sw [] s.data.toList).length 0 (by omega)
          refine Ev.bind hI (Ev.bind hS (Ev.congr (fun k => ?_) hf))
          rw [if_pos rfl]; rfl
      · rw [if_neg A] at hS hI
        exact bad hI hS

end Go.Proofs.YtoaaldfciabahaaDoor.PureFnFieldsAgain
