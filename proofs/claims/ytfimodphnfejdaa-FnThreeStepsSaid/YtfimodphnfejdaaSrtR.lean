/- sort.rotate_func at a slice of records of four whole numbers. -/
import Derived.Test.YtfimodphnfejdaaSrtW
namespace Go.Proofs.Ytfimodphnfejdaa.Srt
open Go.Shelf Go.RowKit Go.Lib Go.Sort Go.Proofs.YtfimodphnfejdaaW.PrintWords Go.Proofs.YtfimodphnfejdaaW.PrintLast Go.Proofs.YtfimodphnfejdaaW.PrintMore
set_option linter.unusedVariables false
set_option linter.unusedSimpArgs false
theorem w64 {n : Int} (h1 : -9223372036854775808 ≤ n) (h2 : n ≤ 9223372036854775807) : wrap64 n = n := by unfold wrap64; omega
theorem w64_sub {x y size : Nat} (h : y ≤ x) (hx : x ≤ size) (hs : size < 4611686018427387904) : ∃ q : Nat, q + y = x ∧ (x : Int) - (y : Int) = (q : Int) ∧ wrap64 (q : Int) = (q : Int) :=
  ⟨x - y, by omega, by omega, w64 (by omega) (by omega)⟩
theorem w64_add {x y size : Nat} (h : x + y ≤ size) (hs : size < 4611686018427387904) : wrap64 ((x : Int) + (y : Int)) = (x : Int) + (y : Int) := w64 (by omega) (by omega)
/-- x + y - z. -/
theorem w64_add_sub {x y z size : Nat} (h : z ≤ x + y) (hx : x + y ≤ size) (hs : size < 4611686018427387904) : ∃ q : Nat, q + z = x + y ∧ (x : Int) + (y : Int) - (z : Int) = (q : Int) ∧ wrap64 (q : Int) = (q : Int) :=
  ⟨x + y - z, by omega, by omega, w64 (by omega) (by omega)⟩
set_option maxHeartbeats 8000000 in
set_option maxRecDepth 100000 in
theorem rotate_calls (g : Nat) (lb : Array Value) (sf : Nat) (sb : Array Value) (blk off size : Nat) (w : World) (hblk : blk < w.heap.size) (hswap : SwapSwapsK Try.prog sf sb ec 4 blk off size) (hsz : size < 4611686018427387904)
    (W : World) (d : Array E) (hst : St w W blk off d) (hd : d.size = size) (a m b : Nat) (h1 : a < m) (h2 : m < b) (h3 : b ≤ size) :
    Calls Try.prog 84 #[.agg #[.func (.func g) #[] lb, .func (.func sf) #[] sb], .int .i64 a, .int .i64 m, .int .i64 b] W fun e w' => e = .returned (.tuple #[]) ∧ ∃ d', Rot d d' a m b ∧ St w w' blk off d' ∧ W.grownBy w' (some blk) := by
  have HH := Aside0.mk hst
  have HBl := Aside0.mk hblk
  have HAB := Aside0.mk (And.intro h1 (And.intro h2 h3))
  obtain ⟨i0, hi0, e1', e1⟩ := w64_sub (x := m) (y := a) (size := size) (by omega) (by omega) hsz
  obtain ⟨j0, hj0, e2', e2⟩ := w64_sub (x := b) (y := m) (size := size) (by omega) (by omega) hsz
  have HI0 := Aside0.mk (And.intro hi0 hj0)
  clear hst hi0 hj0 h1 h2 h3
  go_enter Try.func84, Try.ntmps84
  go_wp2
  go_loopg [8, 9] (i0 + j0) (fun kq v8 v9 wr => ∃ (i j : Nat) (dk : Array E), v8 = .int .i64 (i : Int) ∧ v9 = .int .i64 (j : Int) ∧ Aside0 (1 ≤ i ∧ 1 ≤ j ∧ a + i ≤ m ∧ m + j ≤ b ∧ i + j ≤ kq ∧ b ≤ size) ∧ Aside0 (St w wr blk off dk) ∧ Aside0 (dk.size = size) ∧ Aside0 (∀ d', Rot dk d' (m - i) m (m + j) → Rot d d' a m b) ∧ Aside0 ((W.alloc (.cells #[.func (.func g) #[] lb, .func (.func sf) #[] sb] 78)).grownBy wr (some blk)))
  case atStart =>
    refine ⟨i0, j0, d, (congrArg (Value.int .i64) e1), (congrArg (Value.int .i64) e2), ⟨by have := HI0.out; have := HAB.out; clear e1 e2 e1' e2'; omega⟩, ⟨HH.out.below HBl.out ((Below.refl _ _).alloc (Nat.le_refl _) _)⟩, ⟨hd⟩, ⟨fun d' hr => ?_⟩, ⟨grown_refl _ _⟩⟩
    clear e1 e1' e2 e2'
    have q1 : m - i0 = a := by have := HI0.out; omega
    have q2 : m + j0 = b := by have := HI0.out; omega
    rw [q1, q2] at hr; exact hr
  case round =>
    clear e1 e1' e2 e2'
    obtain ⟨i, j, dk, rfl, rfl, HX, HS, HZ, HC, HG⟩ := hrel
    have c0 : wr.cell? ⟨W.heap.size, 0, none⟩ = some (.func (.func g) #[] lb) := box_cell HBl.out HH.out.grown.size HG.out 0 _ rfl
    have c1 : wr.cell? ⟨W.heap.size, 1, none⟩ = some (.func (.func sf) #[] sb) := box_cell HBl.out HH.out.grown.size HG.out 1 _ rfl
    obtain ⟨p, hp, e3', e3⟩ := w64_sub (x := m) (y := i) (size := size) (by have := HX.out; omega) (by have := HX.out; omega) hsz
    have HP := Aside0.mk hp
    have E3 := Aside0.mk (And.intro e3' e3)
    clear hp e3 e3'
    rcases Nat.lt_trichotomy i j with hij | hij | hij
    · -- i < j
      obtain ⟨q, hq, eq1, eq2⟩ := w64_add_sub (x := m) (y := j) (z := i) (size := size) (by have := HX.out; omega) (by have := HX.out; omega) hsz
      obtain ⟨k1, rfl⟩ : ∃ k1, gk = k1 + 1 := ⟨gk - 1, by have := HX.out; omega⟩
      have es : wrap64 ((m : Int) + (j : Int)) = (m : Int) + (j : Int) := w64_add (size := size) (by have := HX.out; omega) hsz
      have n1 : ((i : Int) == (j : Int)) = false := by simp; omega
      have n2 : ((i : Int) != (j : Int)) = true := by simp; omega
      have n3 : decide ((j : Int) < (i : Int)) = false := by simp; omega
      have n1' : (i == j) = false := by simp; omega
      have n3' : decide (j < i) = false := by simp; omega
      have HIJ := Aside0.mk (And.intro hij hq)
      have B1 : Aside0 (p + i ≤ q ∧ q + i ≤ size) := ⟨by have := HX.out; have := HP.out; omega⟩
      have EQ := Aside0.mk (And.intro eq1 (And.intro eq2 es))
      clear eq1 eq2 es
      obtain ⟨j2, hj2, ej1, ej2⟩ := w64_sub (x := j) (y := i) (size := size) (by omega) (by have := HX.out; omega) hsz
      have HJ := Aside0.mk hj2
      have B2 : Aside0 (1 ≤ i ∧ 1 ≤ j2 ∧ a + i ≤ m ∧ m + j2 ≤ b ∧ i + j2 ≤ k1 ∧ b ≤ size) := ⟨by have := HX.out; omega⟩
      have EJ := Aside0.mk (And.intro ej1 ej2)
      have HF : Aside0 (p = m - i ∧ q = m + j - i ∧ j2 = j - i ∧ i < j ∧ i ≤ m ∧ m + j ≤ dk.size) := ⟨by have := HX.out; have := HP.out; have := HZ.out; omega⟩
      clear hij hq hj2 ej1 ej2
      obtain ⟨e3', e3⟩ := E3.out
      obtain ⟨eq1, eq2, es⟩ := EQ.out
      obtain ⟨ej1, ej2⟩ := EJ.out
      go_wp2_with (first | (go_at_call 85; (try simp only [e3, e3', eq1, eq2, es]); refine (swapRange_calls g lb sf sb blk off size w HBl.out hswap hsz _ dk HS.out HZ.out p q i B1.out.1 B1.out.2).mono ?_; rintro e w1 ⟨rfl, hs1, hg1⟩; have HS1 := Aside0.mk hs1; have HG1 := Aside0.mk (grown_trans HG.out hg1); clear hs1 hg1))
      go_roundg k1
      case measure => exact Nat.lt_succ_self _
      case rel => exact ⟨i, j2, sr dk p q i, rfl, (by first | (simp only [ej1, ej2]; done) | (simp [ej1, ej2]; done)), B2, HS1, ⟨by rw [size_sr]; exact HZ.out⟩, ⟨fun d' hr => HC.out d' (by
        obtain ⟨f1, f2, f3, f4, f5, f6⟩ := HF.out
        rw [f1, f2, f3] at hr
        exact rot_lt f4 f5 f6 hr)⟩, HG1⟩
    · -- i = j
      obtain rfl := hij
      have n1 : ((i : Int) == (i : Int)) = true := by simp
      have n2 : ((i : Int) != (i : Int)) = false := by simp
      have B1 : Aside0 (p + i ≤ m ∧ m + i ≤ size ∧ p = m - i ∧ i ≤ m ∧ m + i ≤ dk.size) := ⟨by have := HX.out; have := HP.out; have := HZ.out; omega⟩
      obtain ⟨e3', e3⟩ := E3.out
      go_wp2_with (first | (go_at_call 85; (try simp only [e3, e3']); refine (swapRange_calls g lb sf sb blk off size w HBl.out hswap hsz _ dk HS.out HZ.out p m i B1.out.1 B1.out.2.1).mono ?_; rintro e w1 ⟨rfl, hs1, hg1⟩; have HS1 := Aside0.mk hs1; have HG1 := Aside0.mk (grown_trans HG.out hg1); clear hs1 hg1))
      go_end0
      refine ⟨rfl, _, HC.out _ (by
        obtain ⟨_, _, f1, f2, f3⟩ := B1.out
        rw [f1]
        exact rot_eq dk m i f2 f3), HS1.out, grown_trans (grown_alloc _ _ _) HG1.out⟩
    · -- j < i
      obtain ⟨k1, rfl⟩ : ∃ k1, gk = k1 + 1 := ⟨gk - 1, by have := HX.out; omega⟩
      have n1 : ((i : Int) == (j : Int)) = false := by simp; omega
      have n2 : ((i : Int) != (j : Int)) = true := by simp; omega
      have n3 : decide ((j : Int) < (i : Int)) = true := by simp; omega
      have n1' : (i == j) = false := by simp; omega
      have n3' : decide (j < i) = true := by simp; omega
      have HIJ := Aside0.mk hij
      obtain ⟨i2, hi2, ei1, ei2⟩ := w64_sub (x := i) (y := j) (size := size) (by omega) (by have := HX.out; omega) hsz
      have EI := Aside0.mk (And.intro ei1 ei2)
      clear ei1 ei2
      have HJ := Aside0.mk hi2
      have B1 : Aside0 (p + j ≤ m ∧ m + j ≤ size) := ⟨by have := HX.out; have := HP.out; omega⟩
      have B2 : Aside0 (1 ≤ i2 ∧ 1 ≤ j ∧ a + i2 ≤ m ∧ m + j ≤ b ∧ i2 + j ≤ k1 ∧ b ≤ size) := ⟨by have := HX.out; omega⟩
      have HF : Aside0 (p = m - i ∧ i2 = i - j ∧ j < i ∧ i ≤ m ∧ m + j ≤ dk.size) := ⟨by have := HX.out; have := HP.out; have := HZ.out; omega⟩
      clear hij hi2
      obtain ⟨e3', e3⟩ := E3.out
      obtain ⟨ei1, ei2⟩ := EI.out
      go_wp2_with (first | (go_at_call 85; (try simp only [e3, e3']); refine (swapRange_calls g lb sf sb blk off size w HBl.out hswap hsz _ dk HS.out HZ.out p m j B1.out.1 B1.out.2).mono ?_; rintro e w1 ⟨rfl, hs1, hg1⟩; have HS1 := Aside0.mk hs1; have HG1 := Aside0.mk (grown_trans HG.out hg1); clear hs1 hg1))
      go_roundg k1
      case measure => exact Nat.lt_succ_self _
      case rel => exact ⟨i2, j, sr dk p m j, (by first | (simp only [ei1, ei2]; done) | (simp [ei1, ei2]; done)), rfl, B2, HS1, ⟨by rw [size_sr]; exact HZ.out⟩, ⟨fun d' hr => HC.out d' (by
        obtain ⟨f1, f3, f4, f5, f6⟩ := HF.out
        rw [f1, f3] at hr
        exact rot_gt f4 f5 f6 hr)⟩, HG1⟩
end Go.Proofs.Ytfimodphnfejdaa.Srt
