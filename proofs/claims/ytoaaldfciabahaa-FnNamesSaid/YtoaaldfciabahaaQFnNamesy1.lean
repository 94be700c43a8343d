/- Contracts of the Go functions that the law FnNames reaches. Sections as the kit's print.sh writes them, put together by a program of this session (stq.py); what calls into Go's library is this session's walk over the kit's shelf contracts. -/
import Derived.Test.YtoaaldfciabahaaProg
import Derived.Below
import Derived.Deep.Draws
import Derived.Deep.AppendLies
import Derived.Maps.AppendAt
import Derived.OwnWalk
import Derived.Laws.BytesArg
import Derived.Laws.MakeOwn
import Derived.Laws.OwnMore
import Derived.Deep.OwnRows
import Derived.Tactics
import Derived.Lib.ConvBytes
import Derived.Laws.Slices
import Derived.WalkKit
import Derived.KernelRfl
import Derived.RowKit3
import Derived.Deep.LoopGhost
import Derived.Deep.QuietTactic
import Derived.BigQuiet
import Derived.WideLaws
import Derived.Deep.DeepCutAuto
import Derived.Deep.CutBlock
import Derived.Deep.RegionHeld3
import Derived.Laws.Rows
import Derived.Lib.AppendStr
import Derived.ArgAppend
import Derived.Laws.IdiomCopy
import Derived.OrdersHeld
import Derived.Laws.BitsLemmas
import Derived.RowKit
import Derived.Test.YtoaaldfciabahaaWWords
import Derived.Test.YtoaaldfciabahaaWLast
import Derived.Test.YtoaaldfciabahaaWTab
import Derived.Test.YtoaaldfciabahaaWFour
import Derived.Test.YtoaaldfciabahaaWQPut
import Derived.Test.YtoaaldfciabahaaWApart
import Derived.Test.YtoaaldfciabahaaWArr
import Derived.Test.YtoaaldfciabahaaWZeros
import Derived.Test.YtoaaldfciabahaaWFoot
import Derived.Test.YtoaaldfciabahaaWKept
import Derived.Test.YtoaaldfciabahaaWShare
import Derived.Test.YtoaaldfciabahaaWN
import Derived.Test.YtoaaldfciabahaaWFootNe
import Derived.Test.YtoaaldfciabahaaWAt
import Derived.Test.YtoaaldfciabahaaWEqStruct
import Derived.Test.YtoaaldfciabahaaWRepsOne
import Derived.Test.YtoaaldfciabahaaWInv
import Derived.Test.YtoaaldfciabahaaWInvWords
import Derived.Test.YtoaaldfciabahaaWGuard
import Derived.Test.YtoaaldfciabahaaWNEv
import Derived.Test.YtoaaldfciabahaaWMore
import Derived.Test.YtoaaldfciabahaaShR
import Derived.Lib.Strings
namespace Go.Proofs.Ytoaaldfciabahaa.PFnNames
open Go.RowKit Go.Proofs.YtoaaldfciabahaaW.PrintWords Go.Proofs.YtoaaldfciabahaaW.PrintLast Go.Proofs.YtoaaldfciabahaaW.PrintMore
attribute [local go_sem] max2_int min2_int max_two min_two max_three min_three max_four min_four
set_option linter.unusedVariables false
set_option linter.unusedSimpArgs false

def errW : Option Int → Value
  | none => .nilIface
  | some c => .iface 0 (.int .i64 c)
theorem errW_none : errW none = .nilIface := rfl
theorem errW_some (c : Int) : errW (some c) = .iface 0 (.int .i64 c) := rfl

theorem info9 : (Try.prog.info? 9).map (fun i => (i.zero, i.size, i.bytes)) = some (some (.string ⟨#[]⟩), 1, 16) := by kernel_rfl
theorem size_one (b : UInt8) : (⟨#[b]⟩ : ByteArray).size = 1 := rfl
theorem size_none : (⟨#[]⟩ : ByteArray).size = 0 := rfl
/-! ### impl_within: function 30 -/
def impl_within.f (a0 : Int) (a1 : Int) (a2 : Int) : Option (Bool) := if a1 ≤ a0 then (some (decide (a0 ≤ a2))) else (some false)
set_option maxHeartbeats 8000000 in
set_option maxRecDepth 100000 in
theorem impl_within.calls (a0 : Int) (a1 : Int) (a2 : Int) (r : Bool) (w : World) (h : impl_within.f a0 a1 a2 = some r) :
    Calls Try.prog 30 #[.int .i64 a0, .int .i64 a1, .int .i64 a2] w fun e w' => e = .returned (.bool r) ∧ Drawn0 w w' := by
  have H : (if a1 ≤ a0 then (some (decide (a0 ≤ a2))) else (some false)) = some r := h
  clear h
  by_cases c4 : a1 ≤ a0
  · rw [if_pos c4] at H
    have c4b0 : decide (a1 ≤ a0) = true := decide_eq_true c4
    clear c4
    obtain rfl := Option.some.inj H
    go_enter Try.func30, Try.ntmps30
    go_wp2
    go_ret
    exact ⟨by first | rfl | (simp; done) | (simp [*]; done), by repeat (first | exact Drawn0.refl _ | apply Drawn0.step)⟩
  · rw [if_neg c4] at H
    have c4b0 : decide (a1 ≤ a0) = false := decide_eq_false c4
    clear c4
    obtain rfl := Option.some.inj H
    go_enter Try.func30, Try.ntmps30
    go_wp2
    go_ret
    exact ⟨by first | rfl | (simp; done) | (simp [*]; done), by repeat (first | exact Drawn0.refl _ | apply Drawn0.step)⟩

/-! ### impl_hasName: function 24 -/
def impl_hasName.f (a0 : Int) : Option (Bool) := (impl_within.f a0 (-15) 19).bind fun t113 => (some t113)
set_option maxHeartbeats 8000000 in
set_option maxRecDepth 100000 in
theorem impl_hasName.calls (a0 : Int) (r : Bool) (w : World) (h : impl_hasName.f a0 = some r) :
    Calls Try.prog 24 #[.int .i64 a0] w fun e w' => e = .returned (.bool r) ∧ Drawn0 w w' := by
  have H : ((impl_within.f a0 (-15) 19).bind fun t113 => (some t113)) = some r := h
  clear h
  replace H := Option.bind_eq_some_iff.mp H
  obtain ⟨t113, A20, H⟩ := H
  replace H : (some t113) = some r := H
  have A2 := Aside0.mk A20
  clear A20
  obtain rfl := Option.some.inj H
  go_enter Try.func24, Try.ntmps24
  go_wp2_with (first | ((with_reducible refine gate_callee (f := 30) rfl ?_); refine goesL_ (some 4) rfl rfl Try.func30 (by kernel_rfl) rfl #[.int .i64 a0, .int .i64 (-15), .int .i64 19] rfl (by (try simp only [List.map_toArray, List.map_cons, List.map_nil]); first | done | rfl | (simp only [List.length_drop, List.length_take]; rfl)) ?_; (with_reducible refine (impl_within.calls a0 (-15) 19 t113 _ A2.out).mono ?_); rintro e w' ⟨rfl, ⟨nd, rfl⟩⟩; refine ⟨_, rfl, ?_⟩))
  go_ret
  exact ⟨by first | rfl | (simp; done) | (simp [*]; done), by repeat (first | exact Drawn0.refl _ | apply Drawn0.step)⟩

/-! ### impl_modulo: function 26 -/
def impl_modulo.f (a0 : Int) (a1 : Int) : Option (Int) := if a1 = 0 then (none) else (some (Int.tmod (wrap64 ((Int.tmod a0 a1) + a1)) a1))
set_option maxHeartbeats 8000000 in
set_option maxRecDepth 100000 in
theorem impl_modulo.calls (a0 : Int) (a1 : Int) (r : Int) (w : World) (h : impl_modulo.f a0 a1 = some r) :
    Calls Try.prog 26 #[.int .i64 a0, .int .i64 a1] w fun e w' => e = .returned (.int .i64 r) ∧ Drawn0 w w' := by
  have H : (if a1 = 0 then (none) else (some (Int.tmod (wrap64 ((Int.tmod a0 a1) + a1)) a1))) = some r := h
  clear h
  by_cases c3 : a1 = 0
  · rw [if_pos c3] at H
    exact absurd H (by simp)
  · rw [if_neg c3] at H
    have c3b0 : (a1 == 0) = false := beq_eq_false_iff_ne.mpr c3
    have c3b1 : (a1 != 0) = true := bne_iff_ne.mpr c3
    obtain rfl := Option.some.inj H
    go_enter Try.func26, Try.ntmps26
    go_wp2
    go_ret
    exact ⟨by first | rfl | (simp; done) | (simp [*]; done), by repeat (first | exact Drawn0.refl _ | apply Drawn0.step)⟩

/-! ### impl_LetterOf: function 15 -/
def impl_LetterOf.f (a0 : Int) : Option (Int) := (impl_hasName.f a0).bind fun t114 => (if t114 = true then ((impl_modulo.f (wrap64 (4 * a0)) 7).bind fun t115 => (some t115)) else (some (-1)))
set_option maxHeartbeats 8000000 in
set_option maxRecDepth 100000 in
theorem impl_LetterOf.calls (a0 : Int) (r : Int) (w : World) (h : impl_LetterOf.f a0 = some r) :
    Calls Try.prog 15 #[.int .i64 a0] w fun e w' => e = .returned (.int .i64 r) ∧ Drawn0 w w' := by
  have H : ((impl_hasName.f a0).bind fun t114 => (if t114 = true then ((impl_modulo.f (wrap64 (4 * a0)) 7).bind fun t115 => (some t115)) else (some (-1)))) = some r := h
  clear h
  replace H := Option.bind_eq_some_iff.mp H
  obtain ⟨t114, A20, H⟩ := H
  replace H : (if t114 = true then ((impl_modulo.f (wrap64 (4 * a0)) 7).bind fun t115 => (some t115)) else (some (-1))) = some r := H
  have A2 := Aside0.mk A20
  clear A20
  by_cases c3 : t114 = true
  · subst c3
    have H1 : ((impl_modulo.f (wrap64 (4 * a0)) 7).bind fun t115 => (some t115)) = some r := by rw [if_pos rfl] at H; exact H
    clear H
    have H := H1
    clear H1
    replace H := Option.bind_eq_some_iff.mp H
    obtain ⟨t115, A40, H⟩ := H
    replace H : (some t115) = some r := H
    have A4 := Aside0.mk A40
    clear A40
    obtain rfl := Option.some.inj H
    go_enter Try.func15, Try.ntmps15
    go_wp2_with (first | ((with_reducible refine gate_callee (f := 24) rfl ?_); refine goesL_ (some 4) rfl rfl Try.func24 (by kernel_rfl) rfl #[.int .i64 a0] rfl (by (try simp only [List.map_toArray, List.map_cons, List.map_nil]); first | done | rfl | (simp only [List.length_drop, List.length_take]; rfl)) ?_; (with_reducible refine (impl_hasName.calls a0 true _ A2.out).mono ?_); rintro e w' ⟨rfl, ⟨nd, rfl⟩⟩; refine ⟨_, rfl, ?_⟩) | ((with_reducible refine gate_callee (f := 26) rfl ?_); refine goesL_ (some 8) rfl rfl Try.func26 (by kernel_rfl) rfl #[.int .i64 (wrap64 (4 * a0)), .int .i64 7] rfl (by (try simp only [List.map_toArray, List.map_cons, List.map_nil]); first | done | rfl | (simp only [List.length_drop, List.length_take]; rfl)) ?_; (with_reducible refine (impl_modulo.calls (wrap64 (4 * a0)) 7 t115 _ A4.out).mono ?_); rintro e w' ⟨rfl, ⟨nd, rfl⟩⟩; refine ⟨_, rfl, ?_⟩))
    go_ret
    exact ⟨by first | rfl | (simp; done) | (simp [*]; done), by repeat (first | exact Drawn0.refl _ | apply Drawn0.step)⟩
  · replace c3 := Bool.eq_false_iff.mpr c3
    subst c3
    have H1 : (some (-1)) = some r := by rw [if_neg (show ¬ (false = true) by decide)] at H; exact H
    clear H
    have H := H1
    clear H1
    obtain rfl := Option.some.inj H
    go_enter Try.func15, Try.ntmps15
    go_wp2_with (first | ((with_reducible refine gate_callee (f := 24) rfl ?_); refine goesL_ (some 4) rfl rfl Try.func24 (by kernel_rfl) rfl #[.int .i64 a0] rfl (by (try simp only [List.map_toArray, List.map_cons, List.map_nil]); first | done | rfl | (simp only [List.length_drop, List.length_take]; rfl)) ?_; (with_reducible refine (impl_hasName.calls a0 false _ A2.out).mono ?_); rintro e w' ⟨rfl, ⟨nd, rfl⟩⟩; refine ⟨_, rfl, ?_⟩))
    go_ret
    exact ⟨by first | rfl | (simp; done) | (simp [*]; done), by repeat (first | exact Drawn0.refl _ | apply Drawn0.step)⟩

/-! ### impl_AccidentalOf: function 16 -/
def impl_AccidentalOf.f (a0 : Int) : Option (Int) := (impl_hasName.f a0).bind fun t116 => (if t116 = true then (some (wrap64 ((wrap64 (Int.tdiv (wrap64 ((wrap64 (a0 + 1)) + 70)) 7)) - 10))) else (some 0))
set_option maxHeartbeats 8000000 in
set_option maxRecDepth 100000 in
theorem impl_AccidentalOf.calls (a0 : Int) (r : Int) (w : World) (h : impl_AccidentalOf.f a0 = some r) :
    Calls Try.prog 16 #[.int .i64 a0] w fun e w' => e = .returned (.int .i64 r) ∧ Drawn0 w w' := by
  have H : ((impl_hasName.f a0).bind fun t116 => (if t116 = true then (some (wrap64 ((wrap64 (Int.tdiv (wrap64 ((wrap64 (a0 + 1)) + 70)) 7)) - 10))) else (some 0))) = some r := h
  clear h
  replace H := Option.bind_eq_some_iff.mp H
  obtain ⟨t116, A20, H⟩ := H
  replace H : (if t116 = true then (some (wrap64 ((wrap64 (Int.tdiv (wrap64 ((wrap64 (a0 + 1)) + 70)) 7)) - 10))) else (some 0)) = some r := H
  have A2 := Aside0.mk A20
  clear A20
  by_cases c3 : t116 = true
  · subst c3
    have H1 : (some (wrap64 ((wrap64 (Int.tdiv (wrap64 ((wrap64 (a0 + 1)) + 70)) 7)) - 10))) = some r := by rw [if_pos rfl] at H; exact H
    clear H
    have H := H1
    clear H1
    obtain rfl := Option.some.inj H
    go_enter Try.func16, Try.ntmps16
    go_wp2_with (first | ((with_reducible refine gate_callee (f := 24) rfl ?_); refine goesL_ (some 4) rfl rfl Try.func24 (by kernel_rfl) rfl #[.int .i64 a0] rfl (by (try simp only [List.map_toArray, List.map_cons, List.map_nil]); first | done | rfl | (simp only [List.length_drop, List.length_take]; rfl)) ?_; (with_reducible refine (impl_hasName.calls a0 true _ A2.out).mono ?_); rintro e w' ⟨rfl, ⟨nd, rfl⟩⟩; refine ⟨_, rfl, ?_⟩))
    go_ret
    exact ⟨by first | rfl | (simp; done) | (simp [*]; done), by repeat (first | exact Drawn0.refl _ | apply Drawn0.step)⟩
  · replace c3 := Bool.eq_false_iff.mpr c3
    subst c3
    have H1 : (some 0) = some r := by rw [if_neg (show ¬ (false = true) by decide)] at H; exact H
    clear H
    have H := H1
    clear H1
    obtain rfl := Option.some.inj H
    go_enter Try.func16, Try.ntmps16
    go_wp2_with (first | ((with_reducible refine gate_callee (f := 24) rfl ?_); refine goesL_ (some 4) rfl rfl Try.func24 (by kernel_rfl) rfl #[.int .i64 a0] rfl (by (try simp only [List.map_toArray, List.map_cons, List.map_nil]); first | done | rfl | (simp only [List.length_drop, List.length_take]; rfl)) ?_; (with_reducible refine (impl_hasName.calls a0 false _ A2.out).mono ?_); rintro e w' ⟨rfl, ⟨nd, rfl⟩⟩; refine ⟨_, rfl, ?_⟩))
    go_ret
    exact ⟨by first | rfl | (simp; done) | (simp [*]; done), by repeat (first | exact Drawn0.refl _ | apply Drawn0.step)⟩

/-! ### impl_NoteName: function 10 -/
/-- impl.NoteName: the letter, and as many signs as the accidental says (strings.Repeat by the kit's contract). -/
def impl_NoteName.f (k : Nat) (a0 : Int) : Option ByteArray :=
  (impl_hasName.f a0).bind fun b => if b = true then ((impl_LetterOf.f a0).bind fun t => (impl_AccidentalOf.f a0).bind fun c =>
    if (0 ≤ t ∧ t ≤ 6) ∧ (-9 ≤ c ∧ c ≤ 9) then some (if c < 0 then (((⟨#[67, 68, 69, 70, 71, 65, 66]⟩ : ByteArray).extract t.toNat 7).extract 0 1) ++ (⟨(Lib.repeatL [98] (-c).toNat).toArray⟩ : ByteArray) else (((⟨#[67, 68, 69, 70, 71, 65, 66]⟩ : ByteArray).extract t.toNat 7).extract 0 1) ++ (⟨(Lib.repeatL [35] c.toNat).toArray⟩ : ByteArray)) else none) else some (⟨#[]⟩ : ByteArray)
theorem impl_NoteName.mono : ∀ a0 k, LeO (impl_NoteName.f k a0) (impl_NoteName.f (k + 1) a0) := fun _ _ => LeO.refl _
theorem rep_calls (b : UInt8) (z : Int) (h0 : 0 ≤ z) (h1 : z ≤ 9) (w : World) :
    Calls Try.prog 25 #[.string ⟨#[b]⟩, .int .i64 z] w fun e w' => e = .returned (.string ⟨(Lib.repeatL [b] z.toNat).toArray⟩) ∧ Below w.heap.size w w' := by
  obtain ⟨n, rfl⟩ := Int.eq_ofNat_of_zero_le h0
  exact Try.strings_Repeat ⟨#[b]⟩ n w (by omega) (by rw [show (⟨#[b]⟩ : ByteArray).size = 1 from rfl, Nat.one_mul]; omega)
theorem rep_size (b : UInt8) (n : Nat) (hn : n ≤ 9) : (⟨(Lib.repeatL [b] n).toArray⟩ : ByteArray).size ≤ 9 := by
  show (Lib.repeatL [b] n).toArray.size ≤ 9
  rw [List.size_toArray, Lib.repeatL_length]
  simpa using hn
theorem ext_size (t : Nat) (ht : t ≤ 6) : ((⟨#[67, 68, 69, 70, 71, 65, 66]⟩ : ByteArray).extract t 7).size = 7 - t := by
  match t, ht with | 0, _ => rfl | 1, _ => rfl | 2, _ => rfl | 3, _ => rfl | 4, _ => rfl | 5, _ => rfl | 6, _ => rfl
theorem one_size (t : Nat) (ht : t ≤ 6) : (((⟨#[67, 68, 69, 70, 71, 65, 66]⟩ : ByteArray).extract t 7).extract 0 1).size = 1 := by
  match t, ht with | 0, _ => rfl | 1, _ => rfl | 2, _ => rfl | 3, _ => rfl | 4, _ => rfl | 5, _ => rfl | 6, _ => rfl
set_option maxHeartbeats 8000000 in
set_option maxRecDepth 100000 in
theorem impl_NoteName.calls (k : Nat) (a0 : Int) (r : ByteArray) (w : World) (h : impl_NoteName.f k a0 = some r) :
    Calls Try.prog 10 #[.int .i64 a0] w fun e w' => e = .returned (.string r) ∧ Below w.heap.size w w' := by
  obtain ⟨b, hb, h⟩ := Option.bind_eq_some_iff.mp h
  cases b with
  | false =>
    rw [if_neg (by simp)] at h
    obtain rfl := Option.some.inj h
    go_enter Try.func10, Try.ntmps10
    go_wp2_with (go_at_call 24; refine (impl_hasName.calls a0 false w hb).mono ?_; rintro e w1 ⟨rfl, ⟨nd, rfl⟩⟩)
    go_ret
    exact ⟨rfl, pw_below_drewN (Below.refl _ _) _⟩
  | true =>
    rw [if_pos rfl] at h
    obtain ⟨t, ht, h⟩ := Option.bind_eq_some_iff.mp h
    obtain ⟨c, hc, h⟩ := Option.bind_eq_some_iff.mp h
    by_cases hr : (0 ≤ t ∧ t ≤ 6) ∧ (-9 ≤ c ∧ c ≤ 9)
    · rw [if_pos hr] at h
      obtain ⟨⟨t0, t6⟩, ⟨c0, c9⟩⟩ := hr
      have s1 := ext_size t.toNat (by omega)
      have s2 := one_size t.toNat (by omega)
      obtain ⟨n, rfl⟩ := Int.eq_ofNat_of_zero_le t0
      simp only [Int.toNat_natCast] at h s1 s2
      have f1 : ((0 : Int) ≤ (n : Int)) = True := eq_true t0
      have f1b : decide ((0 : Int) ≤ (n : Int)) = true := decide_eq_true t0
      have f2 : ((n : Int) ≤ 7) = True := eq_true (by omega)
      have f2b : decide ((n : Int) ≤ 7) = true := decide_eq_true (by omega)
      have f2c : (n ≤ 7) = True := eq_true (by omega)
      have f3 : (1 ≤ 7 - n) = True := eq_true (by omega)
      by_cases cn : c < 0
      · have d1 : decide (c < 0) = true := decide_eq_true cn
        rw [if_pos cn] at h
        obtain rfl := Option.some.inj h
        have hz := rep_size 98 (-c).toNat (by omega)
        have wz : wrap64 (-c) = -c := by unfold wrap64; omega
        have wz2 : IntKind.i64.wrap (-c) = -c := (i64_w _).trans wz
        have hcat : (9223372036854775807 < (((⟨#[67, 68, 69, 70, 71, 65, 66]⟩ : ByteArray).extract n 7).extract 0 1).size + (⟨(Lib.repeatL [98] (-c).toNat).toArray⟩ : ByteArray).size) = False := eq_false (by omega)
        go_enter Try.func10, Try.ntmps10
        go_wp2_with (first | (go_at_call 24; refine (impl_hasName.calls a0 true w hb).mono ?_; rintro e w1 ⟨rfl, ⟨nd, rfl⟩⟩) | (go_at_call 15; refine (impl_LetterOf.calls a0 _ _ ht).mono ?_; rintro e w2 ⟨rfl, ⟨nd2, rfl⟩⟩) | (go_at_call 16; refine (impl_AccidentalOf.calls a0 _ _ hc).mono ?_; rintro e w3 ⟨rfl, ⟨nd3, rfl⟩⟩) | (go_at_call 25; refine (rep_calls 98 (-c) (by omega) (by omega) _).mono ?_; rintro e w4 ⟨rfl, hb4⟩))
        go_ret
        exact ⟨rfl, (pw_below_drewN (Below.refl _ _) _).trans hb4⟩
      · have d1 : decide (c < 0) = false := decide_eq_false cn
        rw [if_neg cn] at h
        obtain rfl := Option.some.inj h
        have hz := rep_size 35 c.toNat (by omega)
        have hcat : (9223372036854775807 < (((⟨#[67, 68, 69, 70, 71, 65, 66]⟩ : ByteArray).extract n 7).extract 0 1).size + (⟨(Lib.repeatL [35] c.toNat).toArray⟩ : ByteArray).size) = False := eq_false (by omega)
        go_enter Try.func10, Try.ntmps10
        go_wp2_with (first | (go_at_call 24; refine (impl_hasName.calls a0 true w hb).mono ?_; rintro e w1 ⟨rfl, ⟨nd, rfl⟩⟩) | (go_at_call 15; refine (impl_LetterOf.calls a0 _ _ ht).mono ?_; rintro e w2 ⟨rfl, ⟨nd2, rfl⟩⟩) | (go_at_call 16; refine (impl_AccidentalOf.calls a0 _ _ hc).mono ?_; rintro e w3 ⟨rfl, ⟨nd3, rfl⟩⟩) | (go_at_call 25; refine (rep_calls 35 c (by omega) (by omega) _).mono ?_; rintro e w4 ⟨rfl, hb4⟩))
        go_ret
        exact ⟨rfl, (pw_below_drewN (Below.refl _ _) _).trans hb4⟩
    · rw [if_neg hr] at h; exact absurd h (by simp)

/-! ### impl_NoteNumber: function 12 -/
def impl_NoteNumber.l0 : Nat → ByteArray → Int → Option (Int × Bool)
  | 0, _, _ => none
  | k + 1, x0, x4 => if x4 ≤ 19 then ((impl_NoteName.f k x4).bind fun t111 => (if t111.toList = x0.toList then (some (x4, true)) else (impl_NoteNumber.l0 k x0 (wrap64 (x4 + 1))))) else (some (0, false))
def impl_NoteNumber.f (k : Nat) (a0 : ByteArray) : Option (Int × Bool) := impl_NoteNumber.l0 k a0 (-15)
theorem impl_NoteNumber.mono_l : ∀ k, (∀ y0 y1, LeO (impl_NoteNumber.l0 k y0 y1) (impl_NoteNumber.l0 (k + 1) y0 y1))
  | 0 => fun _ _ r h => by simp [impl_NoteNumber.l0] at h
  | k + 1 => by
    have ih0 := impl_NoteNumber.mono_l k
    · intro y0 y1
      unfold impl_NoteNumber.l0
      repeat' first
      | (with_reducible exact ih0 _ _)
      | (with_reducible exact impl_NoteName.mono _ _)
      | (with_reducible exact LeO.refl _)
      | (with_reducible exact LeO.none _)
      | (with_reducible refine LeO.ite ?_ ?_)
      | (with_reducible refine LeO.bind ?_ (fun _ => ?_))
      | exact ih0 _ _
      | exact impl_NoteName.mono _ _
      | exact LeO.none _
      | refine LeO.ite ?_ ?_
      | refine LeO.bind ?_ (fun _ => ?_)
theorem impl_NoteNumber.mono : ∀ a0 k, LeO (impl_NoteNumber.f k a0) (impl_NoteNumber.f (k + 1) a0) := by
  intro a0 k
  have ih0 := impl_NoteNumber.mono_l k
  unfold impl_NoteNumber.f
  repeat' first
      | (with_reducible exact ih0 _ _)
      | (with_reducible exact impl_NoteName.mono _ _)
      | (with_reducible exact LeO.refl _)
      | (with_reducible exact LeO.none _)
      | (with_reducible refine LeO.ite ?_ ?_)
      | (with_reducible refine LeO.bind ?_ (fun _ => ?_))
      | exact ih0 _ _
      | exact impl_NoteName.mono _ _
      | exact LeO.none _
      | refine LeO.ite ?_ ?_
      | refine LeO.bind ?_ (fun _ => ?_)
set_option maxHeartbeats 8000000 in
set_option maxRecDepth 100000 in
theorem impl_NoteNumber.calls (k : Nat) (a0 : ByteArray) (r1 : Int) (r2 : Bool) (w : World) (h : impl_NoteNumber.f k a0 = some (r1, r2)) :
    Calls Try.prog 12 #[.string a0] w fun e w' => e = .returned (.tuple #[.int .i64 r1, .bool r2]) ∧ Below w.heap.size w w' := by
  have HB := Aside0.mk (Below.refl w.heap.size w)
  have H : (impl_NoteNumber.l0 k a0 (-15)) = some (r1, r2) := h
  clear h
  have H' := Aside0.mk H
  clear H
  go_enter Try.func12, Try.ntmps12
  go_wp2
  go_loopg [4] k (fun kq v4 w' => ∃ (x4_1 : Int), v4 = .int .i64 x4_1 ∧ Aside0 (impl_NoteNumber.l0 kq a0 x4_1 = some (r1, r2)) ∧ Aside0 (kq ≤ k) ∧ Aside0 (Below w.heap.size w w'))
  case atStart => exact ⟨((-15)), (by first | rfl | (simp; done) | (simp [*]; done)), H', ⟨Nat.le_refl _⟩, ⟨by repeat (first | (with_reducible first | exact HB.out | apply below_alloc | apply pw_below_drewN | apply below_drew1) | exact HB.out)⟩⟩
  case round =>
    clear H'
    try clear c1
    obtain ⟨x4_1, rfl, HA, HK1, HB⟩ := hrel
    cases gk with
    | zero => exact absurd HA.out (by simp [impl_NoteNumber.l0])
    | succ k1 =>
      have H := HA.out
      clear HA
      simp only [impl_NoteNumber.l0] at H
      by_cases c2 : x4_1 ≤ 19
      · rw [if_pos c2] at H
        have c2b0 : decide (x4_1 ≤ 19) = true := decide_eq_true c2
        clear c2
        replace H := Option.bind_eq_some_iff.mp H
        obtain ⟨t111, A30, H⟩ := H
        replace H : (if t111.toList = a0.toList then (some (x4_1, true)) else (impl_NoteNumber.l0 k1 a0 (wrap64 (x4_1 + 1)))) = some (r1, r2) := H
        have A3 := Aside0.mk A30
        clear A30
        by_cases c4 : t111.toList = a0.toList
        · rw [if_pos c4] at H
          have c4b0 : (t111.toList == a0.toList) = true := beq_iff_eq.mpr c4
          have c4b1 : (t111.toList != a0.toList) = false := bne_eq_false_iff_eq.mpr c4
          clear c4
          simp only [Option.some.injEq, Prod.mk.injEq] at H
          obtain ⟨rfl, rfl⟩ := H
          go_wp2_with (first | ((with_reducible refine gate_callee (f := 10) rfl ?_); refine goesL_ (some 10) rfl rfl Try.func10 (by kernel_rfl) rfl #[.int .i64 x4_1] rfl (by (try simp only [List.map_toArray, List.map_cons, List.map_nil]); first | done | rfl | (simp only [List.length_drop, List.length_take]; rfl)) ?_; (with_reducible refine (impl_NoteName.calls k1 x4_1 t111 _ A3.out).mono ?_); rintro e w5 ⟨rfl, hb⟩; refine ⟨_, rfl, ?_⟩; have n0_ := Aside0.mk (below_step (by repeat (first | (with_reducible first | exact HB.out | apply below_alloc | apply pw_below_drewN | apply below_drew1) | exact HB.out)) hb); clear HB; have HB := n0_; clear n0_; (try clear hb); (try clear hb2); (try clear hk); (try clear hi)))
          go_ret2
          exact ⟨by first | rfl | (simp [errW_none, errW_some] <;> rfl) | (simp [*, errW_none, errW_some] <;> rfl), by repeat (first | (with_reducible first | exact HB.out | apply below_alloc | apply pw_below_drewN | apply below_drew1) | exact HB.out)⟩
        · rw [if_neg c4] at H
          have c4b0 : (t111.toList == a0.toList) = false := beq_eq_false_iff_ne.mpr c4
          have c4b1 : (t111.toList != a0.toList) = true := bne_iff_ne.mpr c4
          have H' := Aside0.mk H
          clear H
          go_wp2_with (first | ((with_reducible refine gate_callee (f := 10) rfl ?_); refine goesL_ (some 10) rfl rfl Try.func10 (by kernel_rfl) rfl #[.int .i64 x4_1] rfl (by (try simp only [List.map_toArray, List.map_cons, List.map_nil]); first | done | rfl | (simp only [List.length_drop, List.length_take]; rfl)) ?_; (with_reducible refine (impl_NoteName.calls k1 x4_1 t111 _ A3.out).mono ?_); rintro e w6 ⟨rfl, hb⟩; refine ⟨_, rfl, ?_⟩; have n0_ := Aside0.mk (below_step (by repeat (first | (with_reducible first | exact HB.out | apply below_alloc | apply pw_below_drewN | apply below_drew1) | exact HB.out)) hb); clear HB; have HB := n0_; clear n0_; (try clear hb); (try clear hb2); (try clear hk); (try clear hi)))
          go_roundg k1
          case measure => have := HK1.out; omega
          case rel => exact ⟨(wrap64 (x4_1 + 1)), (by first | rfl | (simp; done) | (simp [*]; done)), H', ⟨by have := HK1.out; omega⟩, ⟨by repeat (first | (with_reducible first | exact HB.out | apply below_alloc | apply pw_below_drewN | apply below_drew1) | exact HB.out)⟩⟩
      · rw [if_neg c2] at H
        have c2b0 : decide (x4_1 ≤ 19) = false := decide_eq_false c2
        clear c2
        simp only [Option.some.injEq, Prod.mk.injEq] at H
        obtain ⟨rfl, rfl⟩ := H
        go_wp2
        go_ret2
        exact ⟨by first | rfl | (simp [errW_none, errW_some] <;> rfl) | (simp [*, errW_none, errW_some] <;> rfl), by repeat (first | (with_reducible first | exact HB.out | apply below_alloc | apply pw_below_drewN | apply below_drew1) | exact HB.out)⟩

/-! ### laws_big: function 13 -/
def laws_big.f (l0 : List Int) : Option (Bool) := some (decide ((l0.length : Int) > 1048576))
set_option maxHeartbeats 8000000 in
set_option maxRecDepth 100000 in
theorem laws_big.calls (A0 : Option Addr) (c0 : Nat) (l0 : List Int) (r : Bool) (w : World) (hr0 : Kd.C (Kd.int .u8) w A0 l0.length l0) (hc0 : l0.length ≤ c0) (h : laws_big.f l0 = some r) :
    Calls Try.prog 13 #[.slice A0 l0.length c0] w fun e w' => e = .returned (.bool r) ∧ Drawn0 w w' := by
  have HR0 := Aside0.mk hr0
  have HC0 := Aside0.mk hc0
  clear hr0 hc0
  have H : (some (decide ((l0.length : Int) > 1048576))) = some r := h
  clear h
  obtain rfl := Option.some.inj H
  go_enter Try.func13, Try.ntmps13
  go_wp2
  go_ret
  exact ⟨by first | rfl | (simp; done) | (simp [*]; done), by repeat (first | exact Drawn0.refl _ | apply Drawn0.step)⟩

/-! ### laws_at: function 14 -/
def laws_at.f (l0 : List Int) (a1 : Int) : Option (Int) := if (l0.length : Int) = 0 then (some 0) else (if 0 ≤ (Int.tmod (wrap64 ((wrap64 (a1 * 5)) + 1)) (l0.length : Int)) then (if (Int.tmod (wrap64 ((wrap64 (a1 * 5)) + 1)) (l0.length : Int)) < (l0.length : Int) then (some (wrap64 (rd l0 (Int.tmod (wrap64 ((wrap64 (a1 * 5)) + 1)) (l0.length : Int))))) else (none)) else (none))
set_option maxHeartbeats 8000000 in
set_option maxRecDepth 100000 in
theorem laws_at.calls (A0 : Option Addr) (c0 : Nat) (l0 : List Int) (a1 : Int) (r : Int) (w : World) (hr0 : Kd.C (Kd.int .u8) w A0 l0.length l0) (hc0 : l0.length ≤ c0) (h : laws_at.f l0 a1 = some r) :
    Calls Try.prog 14 #[.slice A0 l0.length c0, .int .i64 a1] w fun e w' => e = .returned (.int .i64 r) ∧ Drawn0 w w' := by
  have HR0 := Aside0.mk hr0
  have HC0 := Aside0.mk hc0
  clear hr0 hc0
  have H : (if (l0.length : Int) = 0 then (some 0) else (if 0 ≤ (Int.tmod (wrap64 ((wrap64 (a1 * 5)) + 1)) (l0.length : Int)) then (if (Int.tmod (wrap64 ((wrap64 (a1 * 5)) + 1)) (l0.length : Int)) < (l0.length : Int) then (some (wrap64 (rd l0 (Int.tmod (wrap64 ((wrap64 (a1 * 5)) + 1)) (l0.length : Int))))) else (none)) else (none))) = some r := h
  clear h
  by_cases c3 : (l0.length : Int) = 0
  · rw [if_pos c3] at H
    have c3b0 : ((l0.length : Int) == 0) = true := beq_iff_eq.mpr c3
    have c3b1 : ((l0.length : Int) != 0) = false := bne_eq_false_iff_eq.mpr c3
    clear c3
    obtain rfl := Option.some.inj H
    go_enter Try.func14, Try.ntmps14
    go_wp2
    go_ret
    exact ⟨by first | rfl | (simp; done) | (simp [*]; done), by repeat (first | exact Drawn0.refl _ | apply Drawn0.step)⟩
  · rw [if_neg c3] at H
    have c3b0 : ((l0.length : Int) == 0) = false := beq_eq_false_iff_ne.mpr c3
    have c3b1 : ((l0.length : Int) != 0) = true := bne_iff_ne.mpr c3
    have c3b2 : ¬ (l0 = []) := fun h_ => c3 (by rw [h_]; rfl)
    obtain ⟨ji4, hji4⟩ : ∃ j_ : Int, (Int.tmod (wrap64 ((wrap64 (a1 * 5)) + 1)) (l0.length : Int)) = j_ := ⟨_, rfl⟩
    replace H : (if 0 ≤ (ji4) then (if (ji4) < (l0.length : Int) then (some (wrap64 (rd l0 (ji4)))) else (none)) else (none)) = some r := by first | (rw [hji4] at H; exact H) | (simp only [hji4] at H ⊢; exact H)
    by_cases c5 : 0 ≤ (ji4)
    · rw [if_pos c5] at H
      have c5b0 : decide (0 ≤ (ji4)) = true := decide_eq_true c5
      clear c5
      by_cases c6 : (ji4) < (l0.length : Int)
      · rw [if_pos c6] at H
        have c6b0 : decide ((ji4) < (l0.length : Int)) = true := decide_eq_true c6
        clear c6
        obtain rfl := Option.some.inj H
        have p112 : 0 ≤ ((ji4) : Int) := of_decide_eq_true (by first | (with_reducible assumption) | assumption)
        have q112 : (ji4) < (l0.length : Int) := of_decide_eq_true (by first | (with_reducible assumption) | assumption)
        obtain ⟨ad112, e112, hx112_0⟩ := Kd.at_int HR0.out (ji4) p112 q112
        cases e112
        replace p112 := eq_true p112
        replace q112 := eq_true q112
        go_enter Try.func14, Try.ntmps14
        go_wp2
        go_ret
        exact ⟨by first | rfl | (simp; done) | (simp only [← hji4] <;> (first | rfl | simp)) | (simp [*]; done), by repeat (first | exact Drawn0.refl _ | apply Drawn0.step)⟩
      · rw [if_neg c6] at H
        exact absurd H (by simp)
    · rw [if_neg c5] at H
      exact absurd H (by simp)

/-! ### impl_StepsUp: function 17 -/
def impl_StepsUp.j0 : Nat → Int → Int → Bool → Option (Int)
  | 0, _, _, _ => none
  | k + 1, x0, x1, x12 => if x12 = true then (some (-1)) else ((impl_LetterOf.f x1).bind fun t119 => ((impl_LetterOf.f x0).bind fun t120 => ((impl_modulo.f (wrap64 (t119 - t120)) 7).bind fun t121 => (some t121))))
def impl_StepsUp.f (k : Nat) (a0 : Int) (a1 : Int) : Option (Int) := (impl_hasName.f a0).bind fun t117 => (if t117 = true then ((impl_hasName.f a1).bind fun t118 => (impl_StepsUp.j0 k a0 a1 (!t118))) else (impl_StepsUp.j0 k a0 a1 true))
theorem impl_StepsUp.mono_l : ∀ k, (∀ y0 y1 y2, LeO (impl_StepsUp.j0 k y0 y1 y2) (impl_StepsUp.j0 (k + 1) y0 y1 y2))
  | 0 => fun _ _ _ r h => by simp [impl_StepsUp.j0] at h
  | k + 1 => by
    have ih0 := impl_StepsUp.mono_l k
    · intro y0 y1 y2
      unfold impl_StepsUp.j0
      repeat' first
      | (with_reducible exact ih0 _ _ _)
      | (with_reducible exact LeO.refl _)
      | (with_reducible exact LeO.none _)
      | (with_reducible refine LeO.ite ?_ ?_)
      | (with_reducible refine LeO.bind ?_ (fun _ => ?_))
      | exact ih0 _ _ _
      | exact LeO.none _
      | refine LeO.ite ?_ ?_
      | refine LeO.bind ?_ (fun _ => ?_)
theorem impl_StepsUp.mono : ∀ a0 a1 k, LeO (impl_StepsUp.f k a0 a1) (impl_StepsUp.f (k + 1) a0 a1) := by
  intro a0 a1 k
  have ih0 := impl_StepsUp.mono_l k
  unfold impl_StepsUp.f
  repeat' first
      | (with_reducible exact ih0 _ _ _)
      | (with_reducible exact LeO.refl _)
      | (with_reducible exact LeO.none _)
      | (with_reducible refine LeO.ite ?_ ?_)
      | (with_reducible refine LeO.bind ?_ (fun _ => ?_))
      | exact ih0 _ _ _
      | exact LeO.none _
      | refine LeO.ite ?_ ?_
      | refine LeO.bind ?_ (fun _ => ?_)
set_option maxHeartbeats 8000000 in
set_option maxRecDepth 100000 in
theorem impl_StepsUp.calls (k : Nat) (a0 : Int) (a1 : Int) (r : Int) (w : World) (h : impl_StepsUp.f k a0 a1 = some r) :
    Calls Try.prog 17 #[.int .i64 a0, .int .i64 a1] w fun e w' => e = .returned (.int .i64 r) ∧ Drawn0 w w' := by
  have H : ((impl_hasName.f a0).bind fun t117 => (if t117 = true then ((impl_hasName.f a1).bind fun t118 => (impl_StepsUp.j0 k a0 a1 (!t118))) else (impl_StepsUp.j0 k a0 a1 true))) = some r := h
  clear h
  have HC3 := Aside0.mk H
  clear H
  go_enter Try.func17, Try.ntmps17
  go_upto_region 1 with (fail)
  go_cut [12] (fun v12 wc => ∃ (kq : Nat) (x12_2 : Bool), v12 = .bool x12_2 ∧ Aside0 (impl_StepsUp.j0 kq a0 a1 x12_2 = some r) ∧ Aside0 (kq ≤ k) ∧ Drawn0 w wc)
  case first =>
    have H := HC3.out
    clear HC3
    replace H := Option.bind_eq_some_iff.mp H
    obtain ⟨t117, A40, H⟩ := H
    replace H : (if t117 = true then ((impl_hasName.f a1).bind fun t118 => (impl_StepsUp.j0 k a0 a1 (!t118))) else (impl_StepsUp.j0 k a0 a1 true)) = some r := H
    have A4 := Aside0.mk A40
    clear A40
    by_cases c5 : t117 = true
    · subst c5
      have H1 : ((impl_hasName.f a1).bind fun t118 => (impl_StepsUp.j0 k a0 a1 (!t118))) = some r := by rw [if_pos rfl] at H; exact H
      clear H
      have H := H1
      clear H1
      replace H := Option.bind_eq_some_iff.mp H
      obtain ⟨t118, A60, H⟩ := H
      replace H : (impl_StepsUp.j0 k a0 a1 (!t118)) = some r := H
      have A6 := Aside0.mk A60
      clear A60
      have H' := Aside0.mk H
      clear H
      go_wp2_with (first | ((with_reducible refine gate_callee (f := 24) rfl ?_); refine goesL_ (some 6) rfl rfl Try.func24 (by kernel_rfl) rfl #[.int .i64 a0] rfl (by (try simp only [List.map_toArray, List.map_cons, List.map_nil]); first | done | rfl | (simp only [List.length_drop, List.length_take]; rfl)) ?_; (with_reducible refine (impl_hasName.calls a0 true _ A4.out).mono ?_); rintro e w' ⟨rfl, ⟨nd, rfl⟩⟩; refine ⟨_, rfl, ?_⟩) | (go_at_call 24; (with_reducible refine (impl_hasName.calls a1 t118 _ A6.out).mono ?_); rintro e w' ⟨rfl, ⟨nd, rfl⟩⟩))
      go_meet
      case rel => exact ⟨_, (!t118), (by first | rfl | (simp; done) | (simp [*]; done)), H', ⟨by first | omega | exact Nat.le_refl _⟩, by repeat (first | exact Drawn0.refl _ | apply Drawn0.step)⟩
    · replace c5 := Bool.eq_false_iff.mpr c5
      subst c5
      have H1 : (impl_StepsUp.j0 k a0 a1 true) = some r := by rw [if_neg (show ¬ (false = true) by decide)] at H; exact H
      clear H
      have H := H1
      clear H1
      have H' := Aside0.mk H
      clear H
      go_wp2_with (first | ((with_reducible refine gate_callee (f := 24) rfl ?_); refine goesL_ (some 6) rfl rfl Try.func24 (by kernel_rfl) rfl #[.int .i64 a0] rfl (by (try simp only [List.map_toArray, List.map_cons, List.map_nil]); first | done | rfl | (simp only [List.length_drop, List.length_take]; rfl)) ?_; (with_reducible refine (impl_hasName.calls a0 false _ A4.out).mono ?_); rintro e w' ⟨rfl, ⟨nd, rfl⟩⟩; refine ⟨_, rfl, ?_⟩))
      go_meet
      case rel => exact ⟨_, (true), (by first | rfl | (simp; done) | (simp [*]; done)), H', ⟨by first | omega | exact Nat.le_refl _⟩, by repeat (first | exact Drawn0.refl _ | apply Drawn0.step)⟩
  case rest =>
    clear HC3
    try clear c1
    try clear c2
    try clear p2
    try clear c5
    obtain ⟨kq, x12_2, rfl, HA, HJ2, ⟨mc2, rfl⟩⟩ := hcut
    cases kq with
    | zero => exact absurd HA.out (by simp [impl_StepsUp.j0])
    | succ kj2 =>
      have H := HA.out
      clear HA
      simp only [impl_StepsUp.j0] at H
      by_cases c7 : x12_2 = true
      · subst c7
        have H1 : (some (-1)) = some r := by rw [if_pos rfl] at H; exact H
        clear H
        have H := H1
        clear H1
        obtain rfl := Option.some.inj H
        go_wp2
        go_ret
        exact ⟨by first | rfl | (simp; done) | (simp [*]; done), by repeat (first | exact Drawn0.refl _ | apply Drawn0.step)⟩
      · replace c7 := Bool.eq_false_iff.mpr c7
        subst c7
        have H1 : ((impl_LetterOf.f a1).bind fun t119 => ((impl_LetterOf.f a0).bind fun t120 => ((impl_modulo.f (wrap64 (t119 - t120)) 7).bind fun t121 => (some t121)))) = some r := by rw [if_neg (show ¬ (false = true) by decide)] at H; exact H
        clear H
        have H := H1
        clear H1
        replace H := Option.bind_eq_some_iff.mp H
        obtain ⟨t119, A80, H⟩ := H
        replace H : ((impl_LetterOf.f a0).bind fun t120 => ((impl_modulo.f (wrap64 (t119 - t120)) 7).bind fun t121 => (some t121))) = some r := H
        have A8 := Aside0.mk A80
        clear A80
        replace H := Option.bind_eq_some_iff.mp H
        obtain ⟨t120, A90, H⟩ := H
        replace H : ((impl_modulo.f (wrap64 (t119 - t120)) 7).bind fun t121 => (some t121)) = some r := H
        have A9 := Aside0.mk A90
        clear A90
        replace H := Option.bind_eq_some_iff.mp H
        obtain ⟨t121, A100, H⟩ := H
        replace H : (some t121) = some r := H
        have A10 := Aside0.mk A100
        clear A100
        obtain rfl := Option.some.inj H
        go_wp2_with (first | ((with_reducible refine gate_callee (f := 15) rfl ?_); refine goesL_ (some 14) rfl rfl Try.func15 (by kernel_rfl) rfl #[.int .i64 a1] rfl (by (try simp only [List.map_toArray, List.map_cons, List.map_nil]); first | done | rfl | (simp only [List.length_drop, List.length_take]; rfl)) ?_; (with_reducible refine (impl_LetterOf.calls a1 t119 _ A8.out).mono ?_); rintro e w' ⟨rfl, ⟨nd, rfl⟩⟩; refine ⟨_, rfl, ?_⟩) | ((with_reducible refine gate_callee (f := 15) rfl ?_); refine goesL_ (some 16) rfl rfl Try.func15 (by kernel_rfl) rfl #[.int .i64 a0] rfl (by (try simp only [List.map_toArray, List.map_cons, List.map_nil]); first | done | rfl | (simp only [List.length_drop, List.length_take]; rfl)) ?_; (with_reducible refine (impl_LetterOf.calls a0 t120 _ A9.out).mono ?_); rintro e w' ⟨rfl, ⟨nd, rfl⟩⟩; refine ⟨_, rfl, ?_⟩) | ((with_reducible refine gate_callee (f := 26) rfl ?_); refine goesL_ (some 18) rfl rfl Try.func26 (by kernel_rfl) rfl #[.int .i64 (wrap64 (t119 - t120)), .int .i64 7] rfl (by (try simp only [List.map_toArray, List.map_cons, List.map_nil]); first | done | rfl | (simp only [List.length_drop, List.length_take]; rfl)) ?_; (with_reducible refine (impl_modulo.calls (wrap64 (t119 - t120)) 7 t121 _ A10.out).mono ?_); rintro e w' ⟨rfl, ⟨nd, rfl⟩⟩; refine ⟨_, rfl, ?_⟩))
        go_ret
        exact ⟨by first | rfl | (simp; done) | (simp [*]; done), by repeat (first | exact Drawn0.refl _ | apply Drawn0.step)⟩

/-! ### impl_AreEnharmonic: function 18 -/
def impl_AreEnharmonic.f (a0 : Int) (a1 : Int) : Option (Bool) := (impl_hasName.f a0).bind fun t122 => (if t122 = true then ((impl_hasName.f a1).bind fun t123 => (if t123 = true then (some ((Int.tmod (wrap64 (a0 - a1)) 12) == 0)) else (some false))) else (some false))
set_option maxHeartbeats 8000000 in
set_option maxRecDepth 100000 in
theorem impl_AreEnharmonic.calls (a0 : Int) (a1 : Int) (r : Bool) (w : World) (h : impl_AreEnharmonic.f a0 a1 = some r) :
    Calls Try.prog 18 #[.int .i64 a0, .int .i64 a1] w fun e w' => e = .returned (.bool r) ∧ Drawn0 w w' := by
  have H : ((impl_hasName.f a0).bind fun t122 => (if t122 = true then ((impl_hasName.f a1).bind fun t123 => (if t123 = true then (some ((Int.tmod (wrap64 (a0 - a1)) 12) == 0)) else (some false))) else (some false))) = some r := h
  clear h
  replace H := Option.bind_eq_some_iff.mp H
  obtain ⟨t122, A30, H⟩ := H
  replace H : (if t122 = true then ((impl_hasName.f a1).bind fun t123 => (if t123 = true then (some ((Int.tmod (wrap64 (a0 - a1)) 12) == 0)) else (some false))) else (some false)) = some r := H
  have A3 := Aside0.mk A30
  clear A30
  by_cases c4 : t122 = true
  · subst c4
    have H1 : ((impl_hasName.f a1).bind fun t123 => (if t123 = true then (some ((Int.tmod (wrap64 (a0 - a1)) 12) == 0)) else (some false))) = some r := by rw [if_pos rfl] at H; exact H
    clear H
    have H := H1
    clear H1
    replace H := Option.bind_eq_some_iff.mp H
    obtain ⟨t123, A50, H⟩ := H
    replace H : (if t123 = true then (some ((Int.tmod (wrap64 (a0 - a1)) 12) == 0)) else (some false)) = some r := H
    have A5 := Aside0.mk A50
    clear A50
    by_cases c6 : t123 = true
    · subst c6
      have H1 : (some ((Int.tmod (wrap64 (a0 - a1)) 12) == 0)) = some r := by rw [if_pos rfl] at H; exact H
      clear H
      have H := H1
      clear H1
      obtain rfl := Option.some.inj H
      go_enter Try.func18, Try.ntmps18
      go_wp2_with (first | ((with_reducible refine gate_callee (f := 24) rfl ?_); refine goesL_ (some 6) rfl rfl Try.func24 (by kernel_rfl) rfl #[.int .i64 a0] rfl (by (try simp only [List.map_toArray, List.map_cons, List.map_nil]); first | done | rfl | (simp only [List.length_drop, List.length_take]; rfl)) ?_; (with_reducible refine (impl_hasName.calls a0 true _ A3.out).mono ?_); rintro e w' ⟨rfl, ⟨nd, rfl⟩⟩; refine ⟨_, rfl, ?_⟩) | (go_at_call 24; (with_reducible refine (impl_hasName.calls a1 true _ A5.out).mono ?_); rintro e w' ⟨rfl, ⟨nd, rfl⟩⟩))
      go_ret
      exact ⟨by first | rfl | (simp; done) | (simp [*]; done), by repeat (first | exact Drawn0.refl _ | apply Drawn0.step)⟩
    · replace c6 := Bool.eq_false_iff.mpr c6
      subst c6
      have H1 : (some false) = some r := by rw [if_neg (show ¬ (false = true) by decide)] at H; exact H
      clear H
      have H := H1
      clear H1
      obtain rfl := Option.some.inj H
      go_enter Try.func18, Try.ntmps18
      go_wp2_with (first | ((with_reducible refine gate_callee (f := 24) rfl ?_); refine goesL_ (some 6) rfl rfl Try.func24 (by kernel_rfl) rfl #[.int .i64 a0] rfl (by (try simp only [List.map_toArray, List.map_cons, List.map_nil]); first | done | rfl | (simp only [List.length_drop, List.length_take]; rfl)) ?_; (with_reducible refine (impl_hasName.calls a0 true _ A3.out).mono ?_); rintro e w' ⟨rfl, ⟨nd, rfl⟩⟩; refine ⟨_, rfl, ?_⟩) | (go_at_call 24; (with_reducible refine (impl_hasName.calls a1 false _ A5.out).mono ?_); rintro e w' ⟨rfl, ⟨nd, rfl⟩⟩))
      go_ret
      exact ⟨by first | rfl | (simp; done) | (simp [*]; done), by repeat (first | exact Drawn0.refl _ | apply Drawn0.step)⟩
  · replace c4 := Bool.eq_false_iff.mpr c4
    subst c4
    have H1 : (some false) = some r := by rw [if_neg (show ¬ (false = true) by decide)] at H; exact H
    clear H
    have H := H1
    clear H1
    obtain rfl := Option.some.inj H
    go_enter Try.func18, Try.ntmps18
    go_wp2_with (first | ((with_reducible refine gate_callee (f := 24) rfl ?_); refine goesL_ (some 6) rfl rfl Try.func24 (by kernel_rfl) rfl #[.int .i64 a0] rfl (by (try simp only [List.map_toArray, List.map_cons, List.map_nil]); first | done | rfl | (simp only [List.length_drop, List.length_take]; rfl)) ?_; (with_reducible refine (impl_hasName.calls a0 false _ A3.out).mono ?_); rintro e w' ⟨rfl, ⟨nd, rfl⟩⟩; refine ⟨_, rfl, ?_⟩))
    go_ret
    exact ⟨by first | rfl | (simp; done) | (simp [*]; done), by repeat (first | exact Drawn0.refl _ | apply Drawn0.step)⟩

/-! ### laws_FnNames: function 6 -/
def laws_FnNames.f (k : Nat) (l0 : List Int) : Option (Bool) := (laws_big.f l0).bind fun t124 => (if t124 = true then (some true) else ((laws_at.f l0 0).bind fun t125 => ((impl_NoteName.f k (wrap64 ((Int.tmod t125 28) - 15))).bind fun t126 => ((impl_NoteNumber.f k t126).bind fun bt127 => ((laws_at.f l0 1).bind fun t129 => (if bt127.2 = true then (if bt127.1 = (wrap64 ((Int.tmod t125 28) - 15)) then ((impl_LetterOf.f (wrap64 ((wrap64 ((Int.tmod t125 28) - 15)) + 7))).bind fun t130 => ((impl_LetterOf.f (wrap64 ((Int.tmod t125 28) - 15))).bind fun t131 => (if t130 = t131 then ((impl_AccidentalOf.f (wrap64 ((wrap64 ((Int.tmod t125 28) - 15)) + 7))).bind fun t132 => ((impl_AccidentalOf.f (wrap64 ((Int.tmod t125 28) - 15))).bind fun t133 => (if t132 = (wrap64 (t133 + 1)) then ((impl_StepsUp.f k (wrap64 ((Int.tmod t125 28) - 15)) (wrap64 ((wrap64 ((Int.tmod t125 28) - 15)) + 1))).bind fun t134 => (if t134 = 4 then ((impl_NoteName.f k (wrap64 ((Int.tmod t125 28) - 15))).bind fun t135 => ((impl_NoteName.f k (wrap64 ((Int.tmod t129 35) - 15))).bind fun t136 => (if ((t135.toList == t136.toList) == ((wrap64 ((Int.tmod t125 28) - 15)) == (wrap64 ((Int.tmod t129 35) - 15)))) = true then ((impl_AreEnharmonic.f (wrap64 ((Int.tmod t125 28) - 15)) (wrap64 ((Int.tmod t129 35) - 15))).bind fun t137 => (some (t137 == ((Int.tmod (wrap64 ((wrap64 ((Int.tmod t125 28) - 15)) - (wrap64 ((Int.tmod t129 35) - 15)))) 12) == 0)))) else (some false)))) else (some false))) else (some false)))) else (some false)))) else (some false)) else (some false)))))))
theorem laws_FnNames.mono : ∀ a0 k, LeO (laws_FnNames.f k a0) (laws_FnNames.f (k + 1) a0) := by
  intro a0 k
  unfold laws_FnNames.f
  repeat' first
      | (with_reducible exact impl_NoteName.mono _ _)
      | (with_reducible exact impl_NoteNumber.mono _ _)
      | (with_reducible exact impl_StepsUp.mono _ _ _)
      | (with_reducible exact LeO.refl _)
      | (with_reducible exact LeO.none _)
      | (with_reducible refine LeO.ite ?_ ?_)
      | (with_reducible refine LeO.bind ?_ (fun _ => ?_))
      | exact impl_NoteName.mono _ _
      | exact impl_NoteNumber.mono _ _
      | exact impl_StepsUp.mono _ _ _
      | exact LeO.none _
      | refine LeO.ite ?_ ?_
      | refine LeO.bind ?_ (fun _ => ?_)
set_option maxHeartbeats 8000000 in
set_option maxRecDepth 100000 in
theorem laws_FnNames.calls (k : Nat) (A0 : Option Addr) (c0 : Nat) (l0 : List Int) (r : Bool) (w : World) (hr0 : Kd.C (Kd.int .u8) w A0 l0.length l0) (hc0 : l0.length ≤ c0) (h : laws_FnNames.f k l0 = some r) :
    Calls Try.prog 6 #[.slice A0 l0.length c0] w fun e w' => e = .returned (.bool r) ∧ Below w.heap.size w w' := by
  have HR0 := Aside0.mk hr0
  have HC0 := Aside0.mk hc0
  clear hr0 hc0
  have HB := Aside0.mk (Below.refl w.heap.size w)
  have H : ((laws_big.f l0).bind fun t124 => (if t124 = true then (some true) else ((laws_at.f l0 0).bind fun t125 => ((impl_NoteName.f k (wrap64 ((Int.tmod t125 28) - 15))).bind fun t126 => ((impl_NoteNumber.f k t126).bind fun bt127 => ((laws_at.f l0 1).bind fun t129 => (if bt127.2 = true then (if bt127.1 = (wrap64 ((Int.tmod t125 28) - 15)) then ((impl_LetterOf.f (wrap64 ((wrap64 ((Int.tmod t125 28) - 15)) + 7))).bind fun t130 => ((impl_LetterOf.f (wrap64 ((Int.tmod t125 28) - 15))).bind fun t131 => (if t130 = t131 then ((impl_AccidentalOf.f (wrap64 ((wrap64 ((Int.tmod t125 28) - 15)) + 7))).bind fun t132 => ((impl_AccidentalOf.f (wrap64 ((Int.tmod t125 28) - 15))).bind fun t133 => (if t132 = (wrap64 (t133 + 1)) then ((impl_StepsUp.f k (wrap64 ((Int.tmod t125 28) - 15)) (wrap64 ((wrap64 ((Int.tmod t125 28) - 15)) + 1))).bind fun t134 => (if t134 = 4 then ((impl_NoteName.f k (wrap64 ((Int.tmod t125 28) - 15))).bind fun t135 => ((impl_NoteName.f k (wrap64 ((Int.tmod t129 35) - 15))).bind fun t136 => (if ((t135.toList == t136.toList) == ((wrap64 ((Int.tmod t125 28) - 15)) == (wrap64 ((Int.tmod t129 35) - 15)))) = true then ((impl_AreEnharmonic.f (wrap64 ((Int.tmod t125 28) - 15)) (wrap64 ((Int.tmod t129 35) - 15))).bind fun t137 => (some (t137 == ((Int.tmod (wrap64 ((wrap64 ((Int.tmod t125 28) - 15)) - (wrap64 ((Int.tmod t129 35) - 15)))) 12) == 0)))) else (some false)))) else (some false))) else (some false)))) else (some false)))) else (some false)) else (some false)))))))) = some r := h
  clear h
  replace H := Option.bind_eq_some_iff.mp H
  obtain ⟨t124, A20, H⟩ := H
  replace H : (if t124 = true then (some true) else ((laws_at.f l0 0).bind fun t125 => ((impl_NoteName.f k (wrap64 ((Int.tmod t125 28) - 15))).bind fun t126 => ((impl_NoteNumber.f k t126).bind fun bt127 => ((laws_at.f l0 1).bind fun t129 => (if bt127.2 = true then (if bt127.1 = (wrap64 ((Int.tmod t125 28) - 15)) then ((impl_LetterOf.f (wrap64 ((wrap64 ((Int.tmod t125 28) - 15)) + 7))).bind fun t130 => ((impl_LetterOf.f (wrap64 ((Int.tmod t125 28) - 15))).bind fun t131 => (if t130 = t131 then ((impl_AccidentalOf.f (wrap64 ((wrap64 ((Int.tmod t125 28) - 15)) + 7))).bind fun t132 => ((impl_AccidentalOf.f (wrap64 ((Int.tmod t125 28) - 15))).bind fun t133 => (if t132 = (wrap64 (t133 + 1)) then ((impl_StepsUp.f k (wrap64 ((Int.tmod t125 28) - 15)) (wrap64 ((wrap64 ((Int.tmod t125 28) - 15)) + 1))).bind fun t134 => (if t134 = 4 then ((impl_NoteName.f k (wrap64 ((Int.tmod t125 28) - 15))).bind fun t135 => ((impl_NoteName.f k (wrap64 ((Int.tmod t129 35) - 15))).bind fun t136 => (if ((t135.toList == t136.toList) == ((wrap64 ((Int.tmod t125 28) - 15)) == (wrap64 ((Int.tmod t129 35) - 15)))) = true then ((impl_AreEnharmonic.f (wrap64 ((Int.tmod t125 28) - 15)) (wrap64 ((Int.tmod t129 35) - 15))).bind fun t137 => (some (t137 == ((Int.tmod (wrap64 ((wrap64 ((Int.tmod t125 28) - 15)) - (wrap64 ((Int.tmod t129 35) - 15)))) 12) == 0)))) else (some false)))) else (some false))) else (some false)))) else (some false)))) else (some false)) else (some false))))))) = some r := H
  have A2 := Aside0.mk A20
  clear A20
  by_cases c3 : t124 = true
  · subst c3
    have H1 : (some true) = some r := by rw [if_pos rfl] at H; exact H
    clear H
    have H := H1
    clear H1
    obtain rfl := Option.some.inj H
    go_enter Try.func6, Try.ntmps6
    go_wp2_with (first | ((with_reducible refine gate_callee (f := 13) rfl ?_); refine goesL_ (some 8) rfl rfl Try.func13 (by kernel_rfl) rfl #[.slice A0 l0.length c0] rfl (by (try simp only [List.map_toArray, List.map_cons, List.map_nil]); first | done | rfl | (simp only [List.length_drop, List.length_take]; rfl)) ?_; (with_reducible refine (laws_big.calls _ _ l0 true _ ?side1 ?side2 A2.out).mono ?_); (case side1 => repeat (first | exact HR0.out | (with_reducible refine Kd.C_alloc ?_ _) | (with_reducible refine Kd.C_drewN ?_ _) | (with_reducible refine Kd.C_drew ?_))); (case side2 => exact HC0.out); rintro e w' ⟨rfl, ⟨nd, rfl⟩⟩; refine ⟨_, rfl, ?_⟩))
    go_ret
    exact ⟨by first | rfl | (simp [errW_none, errW_some] <;> rfl) | (simp [*, errW_none, errW_some] <;> rfl), by repeat (first | (with_reducible first | exact HB.out | apply below_alloc | apply pw_below_drewN | apply below_drew1) | exact HB.out)⟩
  · replace c3 := Bool.eq_false_iff.mpr c3
    subst c3
    have H1 : ((laws_at.f l0 0).bind fun t125 => ((impl_NoteName.f k (wrap64 ((Int.tmod t125 28) - 15))).bind fun t126 => ((impl_NoteNumber.f k t126).bind fun bt127 => ((laws_at.f l0 1).bind fun t129 => (if bt127.2 = true then (if bt127.1 = (wrap64 ((Int.tmod t125 28) - 15)) then ((impl_LetterOf.f (wrap64 ((wrap64 ((Int.tmod t125 28) - 15)) + 7))).bind fun t130 => ((impl_LetterOf.f (wrap64 ((Int.tmod t125 28) - 15))).bind fun t131 => (if t130 = t131 then ((impl_AccidentalOf.f (wrap64 ((wrap64 ((Int.tmod t125 28) - 15)) + 7))).bind fun t132 => ((impl_AccidentalOf.f (wrap64 ((Int.tmod t125 28) - 15))).bind fun t133 => (if t132 = (wrap64 (t133 + 1)) then ((impl_StepsUp.f k (wrap64 ((Int.tmod t125 28) - 15)) (wrap64 ((wrap64 ((Int.tmod t125 28) - 15)) + 1))).bind fun t134 => (if t134 = 4 then ((impl_NoteName.f k (wrap64 ((Int.tmod t125 28) - 15))).bind fun t135 => ((impl_NoteName.f k (wrap64 ((Int.tmod t129 35) - 15))).bind fun t136 => (if ((t135.toList == t136.toList) == ((wrap64 ((Int.tmod t125 28) - 15)) == (wrap64 ((Int.tmod t129 35) - 15)))) = true then ((impl_AreEnharmonic.f (wrap64 ((Int.tmod t125 28) - 15)) (wrap64 ((Int.tmod t129 35) - 15))).bind fun t137 => (some (t137 == ((Int.tmod (wrap64 ((wrap64 ((Int.tmod t125 28) - 15)) - (wrap64 ((Int.tmod t129 35) - 15)))) 12) == 0)))) else (some false)))) else (some false))) else (some false)))) else (some false)))) else (some false)) else (some false)))))) = some r := by rw [if_neg (show ¬ (false = true) by decide)] at H; exact H
    clear H
    have H := H1
    clear H1
    replace H := Option.bind_eq_some_iff.mp H
    obtain ⟨t125, A40, H⟩ := H
    replace H : ((impl_NoteName.f k (wrap64 ((Int.tmod t125 28) - 15))).bind fun t126 => ((impl_NoteNumber.f k t126).bind fun bt127 => ((laws_at.f l0 1).bind fun t129 => (if bt127.2 = true then (if bt127.1 = (wrap64 ((Int.tmod t125 28) - 15)) then ((impl_LetterOf.f (wrap64 ((wrap64 ((Int.tmod t125 28) - 15)) + 7))).bind fun t130 => ((impl_LetterOf.f (wrap64 ((Int.tmod t125 28) - 15))).bind fun t131 => (if t130 = t131 then ((impl_AccidentalOf.f (wrap64 ((wrap64 ((Int.tmod t125 28) - 15)) + 7))).bind fun t132 => ((impl_AccidentalOf.f (wrap64 ((Int.tmod t125 28) - 15))).bind fun t133 => (if t132 = (wrap64 (t133 + 1)) then ((impl_StepsUp.f k (wrap64 ((Int.tmod t125 28) - 15)) (wrap64 ((wrap64 ((Int.tmod t125 28) - 15)) + 1))).bind fun t134 => (if t134 = 4 then ((impl_NoteName.f k (wrap64 ((Int.tmod t125 28) - 15))).bind fun t135 => ((impl_NoteName.f k (wrap64 ((Int.tmod t129 35) - 15))).bind fun t136 => (if ((t135.toList == t136.toList) == ((wrap64 ((Int.tmod t125 28) - 15)) == (wrap64 ((Int.tmod t129 35) - 15)))) = true then ((impl_AreEnharmonic.f (wrap64 ((Int.tmod t125 28) - 15)) (wrap64 ((Int.tmod t129 35) - 15))).bind fun t137 => (some (t137 == ((Int.tmod (wrap64 ((wrap64 ((Int.tmod t125 28) - 15)) - (wrap64 ((Int.tmod t129 35) - 15)))) 12) == 0)))) else (some false)))) else (some false))) else (some false)))) else (some false)))) else (some false)) else (some false))))) = some r := H
    have A4 := Aside0.mk A40
    clear A40
    replace H := Option.bind_eq_some_iff.mp H
    obtain ⟨t126, A50, H⟩ := H
    replace H : ((impl_NoteNumber.f k t126).bind fun bt127 => ((laws_at.f l0 1).bind fun t129 => (if bt127.2 = true then (if bt127.1 = (wrap64 ((Int.tmod t125 28) - 15)) then ((impl_LetterOf.f (wrap64 ((wrap64 ((Int.tmod t125 28) - 15)) + 7))).bind fun t130 => ((impl_LetterOf.f (wrap64 ((Int.tmod t125 28) - 15))).bind fun t131 => (if t130 = t131 then ((impl_AccidentalOf.f (wrap64 ((wrap64 ((Int.tmod t125 28) - 15)) + 7))).bind fun t132 => ((impl_AccidentalOf.f (wrap64 ((Int.tmod t125 28) - 15))).bind fun t133 => (if t132 = (wrap64 (t133 + 1)) then ((impl_StepsUp.f k (wrap64 ((Int.tmod t125 28) - 15)) (wrap64 ((wrap64 ((Int.tmod t125 28) - 15)) + 1))).bind fun t134 => (if t134 = 4 then ((impl_NoteName.f k (wrap64 ((Int.tmod t125 28) - 15))).bind fun t135 => ((impl_NoteName.f k (wrap64 ((Int.tmod t129 35) - 15))).bind fun t136 => (if ((t135.toList == t136.toList) == ((wrap64 ((Int.tmod t125 28) - 15)) == (wrap64 ((Int.tmod t129 35) - 15)))) = true then ((impl_AreEnharmonic.f (wrap64 ((Int.tmod t125 28) - 15)) (wrap64 ((Int.tmod t129 35) - 15))).bind fun t137 => (some (t137 == ((Int.tmod (wrap64 ((wrap64 ((Int.tmod t125 28) - 15)) - (wrap64 ((Int.tmod t129 35) - 15)))) 12) == 0)))) else (some false)))) else (some false))) else (some false)))) else (some false)))) else (some false)) else (some false)))) = some r := H
    have A5 := Aside0.mk A50
    clear A50
    replace H := Option.bind_eq_some_iff.mp H
    obtain ⟨⟨t127, t128⟩, A60, H⟩ := H
    replace H : ((laws_at.f l0 1).bind fun t129 => (if t128 = true then (if t127 = (wrap64 ((Int.tmod t125 28) - 15)) then ((impl_LetterOf.f (wrap64 ((wrap64 ((Int.tmod t125 28) - 15)) + 7))).bind fun t130 => ((impl_LetterOf.f (wrap64 ((Int.tmod t125 28) - 15))).bind fun t131 => (if t130 = t131 then ((impl_AccidentalOf.f (wrap64 ((wrap64 ((Int.tmod t125 28) - 15)) + 7))).bind fun t132 => ((impl_AccidentalOf.f (wrap64 ((Int.tmod t125 28) - 15))).bind fun t133 => (if t132 = (wrap64 (t133 + 1)) then ((impl_StepsUp.f k (wrap64 ((Int.tmod t125 28) - 15)) (wrap64 ((wrap64 ((Int.tmod t125 28) - 15)) + 1))).bind fun t134 => (if t134 = 4 then ((impl_NoteName.f k (wrap64 ((Int.tmod t125 28) - 15))).bind fun t135 => ((impl_NoteName.f k (wrap64 ((Int.tmod t129 35) - 15))).bind fun t136 => (if ((t135.toList == t136.toList) == ((wrap64 ((Int.tmod t125 28) - 15)) == (wrap64 ((Int.tmod t129 35) - 15)))) = true then ((impl_AreEnharmonic.f (wrap64 ((Int.tmod t125 28) - 15)) (wrap64 ((Int.tmod t129 35) - 15))).bind fun t137 => (some (t137 == ((Int.tmod (wrap64 ((wrap64 ((Int.tmod t125 28) - 15)) - (wrap64 ((Int.tmod t129 35) - 15)))) 12) == 0)))) else (some false)))) else (some false))) else (some false)))) else (some false)))) else (some false)) else (some false))) = some r := H
    have A6 := Aside0.mk A60
    clear A60
    replace H := Option.bind_eq_some_iff.mp H
    obtain ⟨t129, A70, H⟩ := H
    replace H : (if t128 = true then (if t127 = (wrap64 ((Int.tmod t125 28) - 15)) then ((impl_LetterOf.f (wrap64 ((wrap64 ((Int.tmod t125 28) - 15)) + 7))).bind fun t130 => ((impl_LetterOf.f (wrap64 ((Int.tmod t125 28) - 15))).bind fun t131 => (if t130 = t131 then ((impl_AccidentalOf.f (wrap64 ((wrap64 ((Int.tmod t125 28) - 15)) + 7))).bind fun t132 => ((impl_AccidentalOf.f (wrap64 ((Int.tmod t125 28) - 15))).bind fun t133 => (if t132 = (wrap64 (t133 + 1)) then ((impl_StepsUp.f k (wrap64 ((Int.tmod t125 28) - 15)) (wrap64 ((wrap64 ((Int.tmod t125 28) - 15)) + 1))).bind fun t134 => (if t134 = 4 then ((impl_NoteName.f k (wrap64 ((Int.tmod t125 28) - 15))).bind fun t135 => ((impl_NoteName.f k (wrap64 ((Int.tmod t129 35) - 15))).bind fun t136 => (if ((t135.toList == t136.toList) == ((wrap64 ((Int.tmod t125 28) - 15)) == (wrap64 ((Int.tmod t129 35) - 15)))) = true then ((impl_AreEnharmonic.f (wrap64 ((Int.tmod t125 28) - 15)) (wrap64 ((Int.tmod t129 35) - 15))).bind fun t137 => (some (t137 == ((Int.tmod (wrap64 ((wrap64 ((Int.tmod t125 28) - 15)) - (wrap64 ((Int.tmod t129 35) - 15)))) 12) == 0)))) else (some false)))) else (some false))) else (some false)))) else (some false)))) else (some false)) else (some false)) = some r := H
    have A7 := Aside0.mk A70
    clear A70
    by_cases c8 : t128 = true
    · subst c8
      have H1 : (if t127 = (wrap64 ((Int.tmod t125 28) - 15)) then ((impl_LetterOf.f (wrap64 ((wrap64 ((Int.tmod t125 28) - 15)) + 7))).bind fun t130 => ((impl_LetterOf.f (wrap64 ((Int.tmod t125 28) - 15))).bind fun t131 => (if t130 = t131 then ((impl_AccidentalOf.f (wrap64 ((wrap64 ((Int.tmod t125 28) - 15)) + 7))).bind fun t132 => ((impl_AccidentalOf.f (wrap64 ((Int.tmod t125 28) - 15))).bind fun t133 => (if t132 = (wrap64 (t133 + 1)) then ((impl_StepsUp.f k (wrap64 ((Int.tmod t125 28) - 15)) (wrap64 ((wrap64 ((Int.tmod t125 28) - 15)) + 1))).bind fun t134 => (if t134 = 4 then ((impl_NoteName.f k (wrap64 ((Int.tmod t125 28) - 15))).bind fun t135 => ((impl_NoteName.f k (wrap64 ((Int.tmod t129 35) - 15))).bind fun t136 => (if ((t135.toList == t136.toList) == ((wrap64 ((Int.tmod t125 28) - 15)) == (wrap64 ((Int.tmod t129 35) - 15)))) = true then ((impl_AreEnharmonic.f (wrap64 ((Int.tmod t125 28) - 15)) (wrap64 ((Int.tmod t129 35) - 15))).bind fun t137 => (some (t137 == ((Int.tmod (wrap64 ((wrap64 ((Int.tmod t125 28) - 15)) - (wrap64 ((Int.tmod t129 35) - 15)))) 12) == 0)))) else (some false)))) else (some false))) else (some false)))) else (some false)))) else (some false)) = some r := by rw [if_pos rfl] at H; exact H
      clear H
      have H := H1
      clear H1
      by_cases c9 : t127 = (wrap64 ((Int.tmod t125 28) - 15))
      · rw [if_pos c9] at H
        have c9b0 : (t127 == (wrap64 ((Int.tmod t125 28) - 15))) = true := beq_iff_eq.mpr c9
        have c9b1 : (t127 != (wrap64 ((Int.tmod t125 28) - 15))) = false := bne_eq_false_iff_eq.mpr c9
        clear c9
        replace H := Option.bind_eq_some_iff.mp H
        obtain ⟨t130, A100, H⟩ := H
        replace H : ((impl_LetterOf.f (wrap64 ((Int.tmod t125 28) - 15))).bind fun t131 => (if t130 = t131 then ((impl_AccidentalOf.f (wrap64 ((wrap64 ((Int.tmod t125 28) - 15)) + 7))).bind fun t132 => ((impl_AccidentalOf.f (wrap64 ((Int.tmod t125 28) - 15))).bind fun t133 => (if t132 = (wrap64 (t133 + 1)) then ((impl_StepsUp.f k (wrap64 ((Int.tmod t125 28) - 15)) (wrap64 ((wrap64 ((Int.tmod t125 28) - 15)) + 1))).bind fun t134 => (if t134 = 4 then ((impl_NoteName.f k (wrap64 ((Int.tmod t125 28) - 15))).bind fun t135 => ((impl_NoteName.f k (wrap64 ((Int.tmod t129 35) - 15))).bind fun t136 => (if ((t135.toList == t136.toList) == ((wrap64 ((Int.tmod t125 28) - 15)) == (wrap64 ((Int.tmod t129 35) - 15)))) = true then ((impl_AreEnharmonic.f (wrap64 ((Int.tmod t125 28) - 15)) (wrap64 ((Int.tmod t129 35) - 15))).bind fun t137 => (some (t137 == ((Int.tmod (wrap64 ((wrap64 ((Int.tmod t125 28) - 15)) - (wrap64 ((Int.tmod t129 35) - 15)))) 12) == 0)))) else (some false)))) else (some false))) else (some false)))) else (some false))) = some r := H
        have A10 := Aside0.mk A100
        clear A100
        replace H := Option.bind_eq_some_iff.mp H
        obtain ⟨t131, A110, H⟩ := H
        replace H : (if t130 = t131 then ((impl_AccidentalOf.f (wrap64 ((wrap64 ((Int.tmod t125 28) - 15)) + 7))).bind fun t132 => ((impl_AccidentalOf.f (wrap64 ((Int.tmod t125 28) - 15))).bind fun t133 => (if t132 = (wrap64 (t133 + 1)) then ((impl_StepsUp.f k (wrap64 ((Int.tmod t125 28) - 15)) (wrap64 ((wrap64 ((Int.tmod t125 28) - 15)) + 1))).bind fun t134 => (if t134 = 4 then ((impl_NoteName.f k (wrap64 ((Int.tmod t125 28) - 15))).bind fun t135 => ((impl_NoteName.f k (wrap64 ((Int.tmod t129 35) - 15))).bind fun t136 => (if ((t135.toList == t136.toList) == ((wrap64 ((Int.tmod t125 28) - 15)) == (wrap64 ((Int.tmod t129 35) - 15)))) = true then ((impl_AreEnharmonic.f (wrap64 ((Int.tmod t125 28) - 15)) (wrap64 ((Int.tmod t129 35) - 15))).bind fun t137 => (some (t137 == ((Int.tmod (wrap64 ((wrap64 ((Int.tmod t125 28) - 15)) - (wrap64 ((Int.tmod t129 35) - 15)))) 12) == 0)))) else (some false)))) else (some false))) else (some false)))) else (some false)) = some r := H
        have A11 := Aside0.mk A110
        clear A110
        by_cases c12 : t130 = t131
        · rw [if_pos c12] at H
          have c12b0 : (t130 == t131) = true := beq_iff_eq.mpr c12
          have c12b1 : (t130 != t131) = false := bne_eq_false_iff_eq.mpr c12
          clear c12
          replace H := Option.bind_eq_some_iff.mp H
          obtain ⟨t132, A130, H⟩ := H
          replace H : ((impl_AccidentalOf.f (wrap64 ((Int.tmod t125 28) - 15))).bind fun t133 => (if t132 = (wrap64 (t133 + 1)) then ((impl_StepsUp.f k (wrap64 ((Int.tmod t125 28) - 15)) (wrap64 ((wrap64 ((Int.tmod t125 28) - 15)) + 1))).bind fun t134 => (if t134 = 4 then ((impl_NoteName.f k (wrap64 ((Int.tmod t125 28) - 15))).bind fun t135 => ((impl_NoteName.f k (wrap64 ((Int.tmod t129 35) - 15))).bind fun t136 => (if ((t135.toList == t136.toList) == ((wrap64 ((Int.tmod t125 28) - 15)) == (wrap64 ((Int.tmod t129 35) - 15)))) = true then ((impl_AreEnharmonic.f (wrap64 ((Int.tmod t125 28) - 15)) (wrap64 ((Int.tmod t129 35) - 15))).bind fun t137 => (some (t137 == ((Int.tmod (wrap64 ((wrap64 ((Int.tmod t125 28) - 15)) - (wrap64 ((Int.tmod t129 35) - 15)))) 12) == 0)))) else (some false)))) else (some false))) else (some false))) = some r := H
          have A13 := Aside0.mk A130
          clear A130
          replace H := Option.bind_eq_some_iff.mp H
          obtain ⟨t133, A140, H⟩ := H
          replace H : (if t132 = (wrap64 (t133 + 1)) then ((impl_StepsUp.f k (wrap64 ((Int.tmod t125 28) - 15)) (wrap64 ((wrap64 ((Int.tmod t125 28) - 15)) + 1))).bind fun t134 => (if t134 = 4 then ((impl_NoteName.f k (wrap64 ((Int.tmod t125 28) - 15))).bind fun t135 => ((impl_NoteName.f k (wrap64 ((Int.tmod t129 35) - 15))).bind fun t136 => (if ((t135.toList == t136.toList) == ((wrap64 ((Int.tmod t125 28) - 15)) == (wrap64 ((Int.tmod t129 35) - 15)))) = true then ((impl_AreEnharmonic.f (wrap64 ((Int.tmod t125 28) - 15)) (wrap64 ((Int.tmod t129 35) - 15))).bind fun t137 => (some (t137 == ((Int.tmod (wrap64 ((wrap64 ((Int.tmod t125 28) - 15)) - (wrap64 ((Int.tmod t129 35) - 15)))) 12) == 0)))) else (some false)))) else (some false))) else (some false)) = some r := H
          have A14 := Aside0.mk A140
          clear A140
          by_cases c15 : t132 = (wrap64 (t133 + 1))
          · rw [if_pos c15] at H
            have c15b0 : (t132 == (wrap64 (t133 + 1))) = true := beq_iff_eq.mpr c15
            have c15b1 : (t132 != (wrap64 (t133 + 1))) = false := bne_eq_false_iff_eq.mpr c15
            clear c15
            replace H := Option.bind_eq_some_iff.mp H
            obtain ⟨t134, A160, H⟩ := H
            replace H : (if t134 = 4 then ((impl_NoteName.f k (wrap64 ((Int.tmod t125 28) - 15))).bind fun t135 => ((impl_NoteName.f k (wrap64 ((Int.tmod t129 35) - 15))).bind fun t136 => (if ((t135.toList == t136.toList) == ((wrap64 ((Int.tmod t125 28) - 15)) == (wrap64 ((Int.tmod t129 35) - 15)))) = true then ((impl_AreEnharmonic.f (wrap64 ((Int.tmod t125 28) - 15)) (wrap64 ((Int.tmod t129 35) - 15))).bind fun t137 => (some (t137 == ((Int.tmod (wrap64 ((wrap64 ((Int.tmod t125 28) - 15)) - (wrap64 ((Int.tmod t129 35) - 15)))) 12) == 0)))) else (some false)))) else (some false)) = some r := H
            have A16 := Aside0.mk A160
            clear A160
            by_cases c17 : t134 = 4
            · rw [if_pos c17] at H
              have c17b0 : (t134 == 4) = true := beq_iff_eq.mpr c17
              have c17b1 : (t134 != 4) = false := bne_eq_false_iff_eq.mpr c17
              clear c17
              replace H := Option.bind_eq_some_iff.mp H
              obtain ⟨t135, A180, H⟩ := H
              replace H : ((impl_NoteName.f k (wrap64 ((Int.tmod t129 35) - 15))).bind fun t136 => (if ((t135.toList == t136.toList) == ((wrap64 ((Int.tmod t125 28) - 15)) == (wrap64 ((Int.tmod t129 35) - 15)))) = true then ((impl_AreEnharmonic.f (wrap64 ((Int.tmod t125 28) - 15)) (wrap64 ((Int.tmod t129 35) - 15))).bind fun t137 => (some (t137 == ((Int.tmod (wrap64 ((wrap64 ((Int.tmod t125 28) - 15)) - (wrap64 ((Int.tmod t129 35) - 15)))) 12) == 0)))) else (some false))) = some r := H
              have A18 := Aside0.mk A180
              clear A180
              replace H := Option.bind_eq_some_iff.mp H
              obtain ⟨t136, A190, H⟩ := H
              replace H : (if ((t135.toList == t136.toList) == ((wrap64 ((Int.tmod t125 28) - 15)) == (wrap64 ((Int.tmod t129 35) - 15)))) = true then ((impl_AreEnharmonic.f (wrap64 ((Int.tmod t125 28) - 15)) (wrap64 ((Int.tmod t129 35) - 15))).bind fun t137 => (some (t137 == ((Int.tmod (wrap64 ((wrap64 ((Int.tmod t125 28) - 15)) - (wrap64 ((Int.tmod t129 35) - 15)))) 12) == 0)))) else (some false)) = some r := H
              have A19 := Aside0.mk A190
              clear A190
              by_cases c20 : ((t135.toList == t136.toList) == ((wrap64 ((Int.tmod t125 28) - 15)) == (wrap64 ((Int.tmod t129 35) - 15)))) = true
              · rw [if_pos c20] at H
                have c20b0 : ((t135.toList == t136.toList) == ((wrap64 ((Int.tmod t125 28) - 15)) == (wrap64 ((Int.tmod t129 35) - 15)))) = true := c20
                (try (have c20b1 : decide ((t135.toList == t136.toList) = ((wrap64 ((Int.tmod t125 28) - 15)) == (wrap64 ((Int.tmod t129 35) - 15)))) = true := by simpa using c20))
                (try (have c20b2 : ((t135.toList == t136.toList) == ((wrap64 ((Int.tmod t125 28) - 15)) == (wrap64 ((Int.tmod t129 35) - 15)))) = true := by simpa using c20))
                clear c20
                replace H := Option.bind_eq_some_iff.mp H
                obtain ⟨t137, A210, H⟩ := H
                replace H : (some (t137 == ((Int.tmod (wrap64 ((wrap64 ((Int.tmod t125 28) - 15)) - (wrap64 ((Int.tmod t129 35) - 15)))) 12) == 0))) = some r := H
                have A21 := Aside0.mk A210
                clear A210
                obtain rfl := Option.some.inj H
                go_enter Try.func6, Try.ntmps6
                go_wp2_with (first | ((with_reducible refine gate_callee (f := 13) rfl ?_); refine goesL_ (some 8) rfl rfl Try.func13 (by kernel_rfl) rfl #[.slice A0 l0.length c0] rfl (by (try simp only [List.map_toArray, List.map_cons, List.map_nil]); first | done | rfl | (simp only [List.length_drop, List.length_take]; rfl)) ?_; (with_reducible refine (laws_big.calls _ _ l0 false _ ?side1 ?side2 A2.out).mono ?_); (case side1 => repeat (first | exact HR0.out | (with_reducible refine Kd.C_alloc ?_ _) | (with_reducible refine Kd.C_drewN ?_ _) | (with_reducible refine Kd.C_drew ?_))); (case side2 => exact HC0.out); rintro e w' ⟨rfl, ⟨nd, rfl⟩⟩; refine ⟨_, rfl, ?_⟩) | ((with_reducible refine gate_callee (f := 14) rfl ?_); refine goesL_ (some 10) rfl rfl Try.func14 (by kernel_rfl) rfl #[.slice A0 l0.length c0, .int .i64 0] rfl (by (try simp only [List.map_toArray, List.map_cons, List.map_nil]); first | done | rfl | (simp only [List.length_drop, List.length_take]; rfl)) ?_; (with_reducible refine (laws_at.calls _ _ l0 0 t125 _ ?side1 ?side2 A4.out).mono ?_); (case side1 => repeat (first | exact HR0.out | (with_reducible refine Kd.C_alloc ?_ _) | (with_reducible refine Kd.C_drewN ?_ _) | (with_reducible refine Kd.C_drew ?_))); (case side2 => exact HC0.out); rintro e w' ⟨rfl, ⟨nd, rfl⟩⟩; refine ⟨_, rfl, ?_⟩) | ((with_reducible refine gate_callee (f := 10) rfl ?_); refine goesL_ (some 15) rfl rfl Try.func10 (by kernel_rfl) rfl #[.int .i64 (wrap64 ((Int.tmod t125 28) - 15))] rfl (by (try simp only [List.map_toArray, List.map_cons, List.map_nil]); first | done | rfl | (simp only [List.length_drop, List.length_take]; rfl)) ?_; (with_reducible refine (impl_NoteName.calls k (wrap64 ((Int.tmod t125 28) - 15)) t126 _ A5.out).mono ?_); rintro e w22 ⟨rfl, hb⟩; refine ⟨_, rfl, ?_⟩; have n0_ := Aside0.mk (below_step (by repeat (first | (with_reducible first | exact HB.out | apply below_alloc | apply pw_below_drewN | apply below_drew1) | exact HB.out)) hb); clear HB; have HB := n0_; clear n0_; (try clear hb); (try clear hb2); (try clear hk); (try clear hi)) | ((with_reducible refine gate_callee (f := 12) rfl ?_); refine goesL_ (some 16) rfl rfl Try.func12 (by kernel_rfl) rfl #[.string t126] rfl (by (try simp only [List.map_toArray, List.map_cons, List.map_nil]); first | done | rfl | (simp only [List.length_drop, List.length_take]; rfl)) ?_; (with_reducible refine (impl_NoteNumber.calls k t126 t127 true _ A6.out).mono ?_); rintro e w23 ⟨rfl, hb⟩; refine ⟨_, rfl, ?_⟩; have n0_ := Aside0.mk (below_step (by repeat (first | (with_reducible first | exact HB.out | apply below_alloc | apply pw_below_drewN | apply below_drew1) | exact HB.out)) hb); clear HB; have HB := n0_; clear n0_; (try clear hb); (try clear hb2); (try clear hk); (try clear hi)) | ((with_reducible refine gate_callee (f := 14) rfl ?_); refine goesL_ (some 20) rfl rfl Try.func14 (by kernel_rfl) rfl #[.slice A0 l0.length c0, .int .i64 1] rfl (by (try simp only [List.map_toArray, List.map_cons, List.map_nil]); first | done | rfl | (simp only [List.length_drop, List.length_take]; rfl)) ?_; (with_reducible refine (laws_at.calls _ _ l0 1 t129 _ ?side1 ?side2 A7.out).mono ?_); (case side1 => repeat (first | exact (Kd.C_below HR0.out HB.out) | (with_reducible refine Kd.C_alloc ?_ _) | (with_reducible refine Kd.C_drewN ?_ _) | (with_reducible refine Kd.C_drew ?_))); (case side2 => exact HC0.out); rintro e w' ⟨rfl, ⟨nd, rfl⟩⟩; refine ⟨_, rfl, ?_⟩) | (go_at_call 15; (with_reducible refine (impl_LetterOf.calls (wrap64 ((wrap64 ((Int.tmod t125 28) - 15)) + 7)) t130 _ A10.out).mono ?_); rintro e w' ⟨rfl, ⟨nd, rfl⟩⟩) | (go_at_call 15; (with_reducible refine (impl_LetterOf.calls (wrap64 ((Int.tmod t125 28) - 15)) t131 _ A11.out).mono ?_); rintro e w' ⟨rfl, ⟨nd, rfl⟩⟩) | (go_at_call 16; (with_reducible refine (impl_AccidentalOf.calls (wrap64 ((wrap64 ((Int.tmod t125 28) - 15)) + 7)) t132 _ A13.out).mono ?_); rintro e w' ⟨rfl, ⟨nd, rfl⟩⟩) | (go_at_call 16; (with_reducible refine (impl_AccidentalOf.calls (wrap64 ((Int.tmod t125 28) - 15)) t133 _ A14.out).mono ?_); rintro e w' ⟨rfl, ⟨nd, rfl⟩⟩) | (go_at_call 17; (with_reducible refine (impl_StepsUp.calls k (wrap64 ((Int.tmod t125 28) - 15)) (wrap64 ((wrap64 ((Int.tmod t125 28) - 15)) + 1)) t134 _ A16.out).mono ?_); rintro e w' ⟨rfl, ⟨nd, rfl⟩⟩) | (go_at_call 10; (with_reducible refine (impl_NoteName.calls k (wrap64 ((Int.tmod t125 28) - 15)) t135 _ A18.out).mono ?_); rintro e w24 ⟨rfl, hb⟩; have n0_ := Aside0.mk (below_step (by repeat (first | (with_reducible first | exact HB.out | apply below_alloc | apply pw_below_drewN | apply below_drew1) | exact HB.out)) hb); clear HB; have HB := n0_; clear n0_; (try clear hb); (try clear hb2); (try clear hk); (try clear hi)) | (go_at_call 10; (with_reducible refine (impl_NoteName.calls k (wrap64 ((Int.tmod t129 35) - 15)) t136 _ A19.out).mono ?_); rintro e w25 ⟨rfl, hb⟩; have n0_ := Aside0.mk (below_step (by repeat (first | (with_reducible first | exact HB.out | apply below_alloc | apply pw_below_drewN | apply below_drew1) | exact HB.out)) hb); clear HB; have HB := n0_; clear n0_; (try clear hb); (try clear hb2); (try clear hk); (try clear hi)) | (go_at_call 18; (with_reducible refine (impl_AreEnharmonic.calls (wrap64 ((Int.tmod t125 28) - 15)) (wrap64 ((Int.tmod t129 35) - 15)) t137 _ A21.out).mono ?_); rintro e w' ⟨rfl, ⟨nd, rfl⟩⟩))
                go_ret
                exact ⟨by first | rfl | (simp [errW_none, errW_some] <;> rfl) | (simp [*, errW_none, errW_some] <;> rfl), by repeat (first | (with_reducible first | exact HB.out | apply below_alloc | apply pw_below_drewN | apply below_drew1) | exact HB.out)⟩
              · rw [if_neg c20] at H
                have c20b0 : ((t135.toList == t136.toList) == ((wrap64 ((Int.tmod t125 28) - 15)) == (wrap64 ((Int.tmod t129 35) - 15)))) = false := by simpa using c20
                (try (have c20b1 : decide ((t135.toList == t136.toList) = ((wrap64 ((Int.tmod t125 28) - 15)) == (wrap64 ((Int.tmod t129 35) - 15)))) = false := by simpa using c20))
                (try (have c20b2 : ((t135.toList == t136.toList) == ((wrap64 ((Int.tmod t125 28) - 15)) == (wrap64 ((Int.tmod t129 35) - 15)))) = false := by simpa using c20))
                (try (have c20b3 : ¬ ((t135.toList == t136.toList) = ((wrap64 ((Int.tmod t125 28) - 15)) == (wrap64 ((Int.tmod t129 35) - 15)))) := by simpa using c20))
                clear c20
                obtain rfl := Option.some.inj H
                go_enter Try.func6, Try.ntmps6
                go_wp2_with (first | ((with_reducible refine gate_callee (f := 13) rfl ?_); refine goesL_ (some 8) rfl rfl Try.func13 (by kernel_rfl) rfl #[.slice A0 l0.length c0] rfl (by (try simp only [List.map_toArray, List.map_cons, List.map_nil]); first | done | rfl | (simp only [List.length_drop, List.length_take]; rfl)) ?_; (with_reducible refine (laws_big.calls _ _ l0 false _ ?side1 ?side2 A2.out).mono ?_); (case side1 => repeat (first | exact HR0.out | (with_reducible refine Kd.C_alloc ?_ _) | (with_reducible refine Kd.C_drewN ?_ _) | (with_reducible refine Kd.C_drew ?_))); (case side2 => exact HC0.out); rintro e w' ⟨rfl, ⟨nd, rfl⟩⟩; refine ⟨_, rfl, ?_⟩) | ((with_reducible refine gate_callee (f := 14) rfl ?_); refine goesL_ (some 10) rfl rfl Try.func14 (by kernel_rfl) rfl #[.slice A0 l0.length c0, .int .i64 0] rfl (by (try simp only [List.map_toArray, List.map_cons, List.map_nil]); first | done | rfl | (simp only [List.length_drop, List.length_take]; rfl)) ?_; (with_reducible refine (laws_at.calls _ _ l0 0 t125 _ ?side1 ?side2 A4.out).mono ?_); (case side1 => repeat (first | exact HR0.out | (with_reducible refine Kd.C_alloc ?_ _) | (with_reducible refine Kd.C_drewN ?_ _) | (with_reducible refine Kd.C_drew ?_))); (case side2 => exact HC0.out); rintro e w' ⟨rfl, ⟨nd, rfl⟩⟩; refine ⟨_, rfl, ?_⟩) | ((with_reducible refine gate_callee (f := 10) rfl ?_); refine goesL_ (some 15) rfl rfl Try.func10 (by kernel_rfl) rfl #[.int .i64 (wrap64 ((Int.tmod t125 28) - 15))] rfl (by (try simp only [List.map_toArray, List.map_cons, List.map_nil]); first | done | rfl | (simp only [List.length_drop, List.length_take]; rfl)) ?_; (with_reducible refine (impl_NoteName.calls k (wrap64 ((Int.tmod t125 28) - 15)) t126 _ A5.out).mono ?_); rintro e w26 ⟨rfl, hb⟩; refine ⟨_, rfl, ?_⟩; have n0_ := Aside0.mk (below_step (by repeat (first | (with_reducible first | exact HB.out | apply below_alloc | apply pw_below_drewN | apply below_drew1) | exact HB.out)) hb); clear HB; have HB := n0_; clear n0_; (try clear hb); (try clear hb2); (try clear hk); (try clear hi)) | ((with_reducible refine gate_callee (f := 12) rfl ?_); refine goesL_ (some 16) rfl rfl Try.func12 (by kernel_rfl) rfl #[.string t126] rfl (by (try simp only [List.map_toArray, List.map_cons, List.map_nil]); first | done | rfl | (simp only [List.length_drop, List.length_take]; rfl)) ?_; (with_reducible refine (impl_NoteNumber.calls k t126 t127 true _ A6.out).mono ?_); rintro e w27 ⟨rfl, hb⟩; refine ⟨_, rfl, ?_⟩; have n0_ := Aside0.mk (below_step (by repeat (first | (with_reducible first | exact HB.out | apply below_alloc | apply pw_below_drewN | apply below_drew1) | exact HB.out)) hb); clear HB; have HB := n0_; clear n0_; (try clear hb); (try clear hb2); (try clear hk); (try clear hi)) | ((with_reducible refine gate_callee (f := 14) rfl ?_); refine goesL_ (some 20) rfl rfl Try.func14 (by kernel_rfl) rfl #[.slice A0 l0.length c0, .int .i64 1] rfl (by (try simp only [List.map_toArray, List.map_cons, List.map_nil]); first | done | rfl | (simp only [List.length_drop, List.length_take]; rfl)) ?_; (with_reducible refine (laws_at.calls _ _ l0 1 t129 _ ?side1 ?side2 A7.out).mono ?_); (case side1 => repeat (first | exact (Kd.C_below HR0.out HB.out) | (with_reducible refine Kd.C_alloc ?_ _) | (with_reducible refine Kd.C_drewN ?_ _) | (with_reducible refine Kd.C_drew ?_))); (case side2 => exact HC0.out); rintro e w' ⟨rfl, ⟨nd, rfl⟩⟩; refine ⟨_, rfl, ?_⟩) | (go_at_call 15; (with_reducible refine (impl_LetterOf.calls (wrap64 ((wrap64 ((Int.tmod t125 28) - 15)) + 7)) t130 _ A10.out).mono ?_); rintro e w' ⟨rfl, ⟨nd, rfl⟩⟩) | (go_at_call 15; (with_reducible refine (impl_LetterOf.calls (wrap64 ((Int.tmod t125 28) - 15)) t131 _ A11.out).mono ?_); rintro e w' ⟨rfl, ⟨nd, rfl⟩⟩) | (go_at_call 16; (with_reducible refine (impl_AccidentalOf.calls (wrap64 ((wrap64 ((Int.tmod t125 28) - 15)) + 7)) t132 _ A13.out).mono ?_); rintro e w' ⟨rfl, ⟨nd, rfl⟩⟩) | (go_at_call 16; (with_reducible refine (impl_AccidentalOf.calls (wrap64 ((Int.tmod t125 28) - 15)) t133 _ A14.out).mono ?_); rintro e w' ⟨rfl, ⟨nd, rfl⟩⟩) | (go_at_call 17; (with_reducible refine (impl_StepsUp.calls k (wrap64 ((Int.tmod t125 28) - 15)) (wrap64 ((wrap64 ((Int.tmod t125 28) - 15)) + 1)) t134 _ A16.out).mono ?_); rintro e w' ⟨rfl, ⟨nd, rfl⟩⟩) | (go_at_call 10; (with_reducible refine (impl_NoteName.calls k (wrap64 ((Int.tmod t125 28) - 15)) t135 _ A18.out).mono ?_); rintro e w28 ⟨rfl, hb⟩; have n0_ := Aside0.mk (below_step (by repeat (first | (with_reducible first | exact HB.out | apply below_alloc | apply pw_below_drewN | apply below_drew1) | exact HB.out)) hb); clear HB; have HB := n0_; clear n0_; (try clear hb); (try clear hb2); (try clear hk); (try clear hi)) | (go_at_call 10; (with_reducible refine (impl_NoteName.calls k (wrap64 ((Int.tmod t129 35) - 15)) t136 _ A19.out).mono ?_); rintro e w29 ⟨rfl, hb⟩; have n0_ := Aside0.mk (below_step (by repeat (first | (with_reducible first | exact HB.out | apply below_alloc | apply pw_below_drewN | apply below_drew1) | exact HB.out)) hb); clear HB; have HB := n0_; clear n0_; (try clear hb); (try clear hb2); (try clear hk); (try clear hi)))
                go_ret
                exact ⟨by first | rfl | (simp [errW_none, errW_some] <;> rfl) | (simp [*, errW_none, errW_some] <;> rfl), by repeat (first | (with_reducible first | exact HB.out | apply below_alloc | apply pw_below_drewN | apply below_drew1) | exact HB.out)⟩
            · rw [if_neg c17] at H
              have c17b0 : (t134 == 4) = false := beq_eq_false_iff_ne.mpr c17
              have c17b1 : (t134 != 4) = true := bne_iff_ne.mpr c17
              obtain rfl := Option.some.inj H
              go_enter Try.func6, Try.ntmps6
              go_wp2_with (first | ((with_reducible refine gate_callee (f := 13) rfl ?_); refine goesL_ (some 8) rfl rfl Try.func13 (by kernel_rfl) rfl #[.slice A0 l0.length c0] rfl (by (try simp only [List.map_toArray, List.map_cons, List.map_nil]); first | done | rfl | (simp only [List.length_drop, List.length_take]; rfl)) ?_; (with_reducible refine (laws_big.calls _ _ l0 false _ ?side1 ?side2 A2.out).mono ?_); (case side1 => repeat (first | exact HR0.out | (with_reducible refine Kd.C_alloc ?_ _) | (with_reducible refine Kd.C_drewN ?_ _) | (with_reducible refine Kd.C_drew ?_))); (case side2 => exact HC0.out); rintro e w' ⟨rfl, ⟨nd, rfl⟩⟩; refine ⟨_, rfl, ?_⟩) | ((with_reducible refine gate_callee (f := 14) rfl ?_); refine goesL_ (some 10) rfl rfl Try.func14 (by kernel_rfl) rfl #[.slice A0 l0.length c0, .int .i64 0] rfl (by (try simp only [List.map_toArray, List.map_cons, List.map_nil]); first | done | rfl | (simp only [List.length_drop, List.length_take]; rfl)) ?_; (with_reducible refine (laws_at.calls _ _ l0 0 t125 _ ?side1 ?side2 A4.out).mono ?_); (case side1 => repeat (first | exact HR0.out | (with_reducible refine Kd.C_alloc ?_ _) | (with_reducible refine Kd.C_drewN ?_ _) | (with_reducible refine Kd.C_drew ?_))); (case side2 => exact HC0.out); rintro e w' ⟨rfl, ⟨nd, rfl⟩⟩; refine ⟨_, rfl, ?_⟩) | ((with_reducible refine gate_callee (f := 10) rfl ?_); refine goesL_ (some 15) rfl rfl Try.func10 (by kernel_rfl) rfl #[.int .i64 (wrap64 ((Int.tmod t125 28) - 15))] rfl (by (try simp only [List.map_toArray, List.map_cons, List.map_nil]); first | done | rfl | (simp only [List.length_drop, List.length_take]; rfl)) ?_; (with_reducible refine (impl_NoteName.calls k (wrap64 ((Int.tmod t125 28) - 15)) t126 _ A5.out).mono ?_); rintro e w30 ⟨rfl, hb⟩; refine ⟨_, rfl, ?_⟩; have n0_ := Aside0.mk (below_step (by repeat (first | (with_reducible first | exact HB.out | apply below_alloc | apply pw_below_drewN | apply below_drew1) | exact HB.out)) hb); clear HB; have HB := n0_; clear n0_; (try clear hb); (try clear hb2); (try clear hk); (try clear hi)) | ((with_reducible refine gate_callee (f := 12) rfl ?_); refine goesL_ (some 16) rfl rfl Try.func12 (by kernel_rfl) rfl #[.string t126] rfl (by (try simp only [List.map_toArray, List.map_cons, List.map_nil]); first | done | rfl | (simp only [List.length_drop, List.length_take]; rfl)) ?_; (with_reducible refine (impl_NoteNumber.calls k t126 t127 true _ A6.out).mono ?_); rintro e w31 ⟨rfl, hb⟩; refine ⟨_, rfl, ?_⟩; have n0_ := Aside0.mk (below_step (by repeat (first | (with_reducible first | exact HB.out | apply below_alloc | apply pw_below_drewN | apply below_drew1) | exact HB.out)) hb); clear HB; have HB := n0_; clear n0_; (try clear hb); (try clear hb2); (try clear hk); (try clear hi)) | ((with_reducible refine gate_callee (f := 14) rfl ?_); refine goesL_ (some 20) rfl rfl Try.func14 (by kernel_rfl) rfl #[.slice A0 l0.length c0, .int .i64 1] rfl (by (try simp only [List.map_toArray, List.map_cons, List.map_nil]); first | done | rfl | (simp only [List.length_drop, List.length_take]; rfl)) ?_; (with_reducible refine (laws_at.calls _ _ l0 1 t129 _ ?side1 ?side2 A7.out).mono ?_); (case side1 => repeat (first | exact (Kd.C_below HR0.out HB.out) | (with_reducible refine Kd.C_alloc ?_ _) | (with_reducible refine Kd.C_drewN ?_ _) | (with_reducible refine Kd.C_drew ?_))); (case side2 => exact HC0.out); rintro e w' ⟨rfl, ⟨nd, rfl⟩⟩; refine ⟨_, rfl, ?_⟩) | (go_at_call 15; (with_reducible refine (impl_LetterOf.calls (wrap64 ((wrap64 ((Int.tmod t125 28) - 15)) + 7)) t130 _ A10.out).mono ?_); rintro e w' ⟨rfl, ⟨nd, rfl⟩⟩) | (go_at_call 15; (with_reducible refine (impl_LetterOf.calls (wrap64 ((Int.tmod t125 28) - 15)) t131 _ A11.out).mono ?_); rintro e w' ⟨rfl, ⟨nd, rfl⟩⟩) | (go_at_call 16; (with_reducible refine (impl_AccidentalOf.calls (wrap64 ((wrap64 ((Int.tmod t125 28) - 15)) + 7)) t132 _ A13.out).mono ?_); rintro e w' ⟨rfl, ⟨nd, rfl⟩⟩) | (go_at_call 16; (with_reducible refine (impl_AccidentalOf.calls (wrap64 ((Int.tmod t125 28) - 15)) t133 _ A14.out).mono ?_); rintro e w' ⟨rfl, ⟨nd, rfl⟩⟩) | (go_at_call 17; (with_reducible refine (impl_StepsUp.calls k (wrap64 ((Int.tmod t125 28) - 15)) (wrap64 ((wrap64 ((Int.tmod t125 28) - 15)) + 1)) t134 _ A16.out).mono ?_); rintro e w' ⟨rfl, ⟨nd, rfl⟩⟩))
              go_ret
              exact ⟨by first | rfl | (simp [errW_none, errW_some] <;> rfl) | (simp [*, errW_none, errW_some] <;> rfl), by repeat (first | (with_reducible first | exact HB.out | apply below_alloc | apply pw_below_drewN | apply below_drew1) | exact HB.out)⟩
          · rw [if_neg c15] at H
            have c15b0 : (t132 == (wrap64 (t133 + 1))) = false := beq_eq_false_iff_ne.mpr c15
            have c15b1 : (t132 != (wrap64 (t133 + 1))) = true := bne_iff_ne.mpr c15
            obtain rfl := Option.some.inj H
            go_enter Try.func6, Try.ntmps6
            go_wp2_with (first | ((with_reducible refine gate_callee (f := 13) rfl ?_); refine goesL_ (some 8) rfl rfl Try.func13 (by kernel_rfl) rfl #[.slice A0 l0.length c0] rfl (by (try simp only [List.map_toArray, List.map_cons, List.map_nil]); first | done | rfl | (simp only [List.length_drop, List.length_take]; rfl)) ?_; (with_reducible refine (laws_big.calls _ _ l0 false _ ?side1 ?side2 A2.out).mono ?_); (case side1 => repeat (first | exact HR0.out | (with_reducible refine Kd.C_alloc ?_ _) | (with_reducible refine Kd.C_drewN ?_ _) | (with_reducible refine Kd.C_drew ?_))); (case side2 => exact HC0.out); rintro e w' ⟨rfl, ⟨nd, rfl⟩⟩; refine ⟨_, rfl, ?_⟩) | ((with_reducible refine gate_callee (f := 14) rfl ?_); refine goesL_ (some 10) rfl rfl Try.func14 (by kernel_rfl) rfl #[.slice A0 l0.length c0, .int .i64 0] rfl (by (try simp only [List.map_toArray, List.map_cons, List.map_nil]); first | done | rfl | (simp only [List.length_drop, List.length_take]; rfl)) ?_; (with_reducible refine (laws_at.calls _ _ l0 0 t125 _ ?side1 ?side2 A4.out).mono ?_); (case side1 => repeat (first | exact HR0.out | (with_reducible refine Kd.C_alloc ?_ _) | (with_reducible refine Kd.C_drewN ?_ _) | (with_reducible refine Kd.C_drew ?_))); (case side2 => exact HC0.out); rintro e w' ⟨rfl, ⟨nd, rfl⟩⟩; refine ⟨_, rfl, ?_⟩) | ((with_reducible refine gate_callee (f := 10) rfl ?_); refine goesL_ (some 15) rfl rfl Try.func10 (by kernel_rfl) rfl #[.int .i64 (wrap64 ((Int.tmod t125 28) - 15))] rfl (by (try simp only [List.map_toArray, List.map_cons, List.map_nil]); first | done | rfl | (simp only [List.length_drop, List.length_take]; rfl)) ?_; (with_reducible refine (impl_NoteName.calls k (wrap64 ((Int.tmod t125 28) - 15)) t126 _ A5.out).mono ?_); rintro e w32 ⟨rfl, hb⟩; refine ⟨_, rfl, ?_⟩; have n0_ := Aside0.mk (below_step (by repeat (first | (with_reducible first | exact HB.out | apply below_alloc | apply pw_below_drewN | apply below_drew1) | exact HB.out)) hb); clear HB; have HB := n0_; clear n0_; (try clear hb); (try clear hb2); (try clear hk); (try clear hi)) | ((with_reducible refine gate_callee (f := 12) rfl ?_); refine goesL_ (some 16) rfl rfl Try.func12 (by kernel_rfl) rfl #[.string t126] rfl (by (try simp only [List.map_toArray, List.map_cons, List.map_nil]); first | done | rfl | (simp only [List.length_drop, List.length_take]; rfl)) ?_; (with_reducible refine (impl_NoteNumber.calls k t126 t127 true _ A6.out).mono ?_); rintro e w33 ⟨rfl, hb⟩; refine ⟨_, rfl, ?_⟩; have n0_ := Aside0.mk (below_step (by repeat (first | (with_reducible first | exact HB.out | apply below_alloc | apply pw_below_drewN | apply below_drew1) | exact HB.out)) hb); clear HB; have HB := n0_; clear n0_; (try clear hb); (try clear hb2); (try clear hk); (try clear hi)) | ((with_reducible refine gate_callee (f := 14) rfl ?_); refine goesL_ (some 20) rfl rfl Try.func14 (by kernel_rfl) rfl #[.slice A0 l0.length c0, .int .i64 1] rfl (by (try simp only [List.map_toArray, List.map_cons, List.map_nil]); first | done | rfl | (simp only [List.length_drop, List.length_take]; rfl)) ?_; (with_reducible refine (laws_at.calls _ _ l0 1 t129 _ ?side1 ?side2 A7.out).mono ?_); (case side1 => repeat (first | exact (Kd.C_below HR0.out HB.out) | (with_reducible refine Kd.C_alloc ?_ _) | (with_reducible refine Kd.C_drewN ?_ _) | (with_reducible refine Kd.C_drew ?_))); (case side2 => exact HC0.out); rintro e w' ⟨rfl, ⟨nd, rfl⟩⟩; refine ⟨_, rfl, ?_⟩) | (go_at_call 15; (with_reducible refine (impl_LetterOf.calls (wrap64 ((wrap64 ((Int.tmod t125 28) - 15)) + 7)) t130 _ A10.out).mono ?_); rintro e w' ⟨rfl, ⟨nd, rfl⟩⟩) | (go_at_call 15; (with_reducible refine (impl_LetterOf.calls (wrap64 ((Int.tmod t125 28) - 15)) t131 _ A11.out).mono ?_); rintro e w' ⟨rfl, ⟨nd, rfl⟩⟩) | (go_at_call 16; (with_reducible refine (impl_AccidentalOf.calls (wrap64 ((wrap64 ((Int.tmod t125 28) - 15)) + 7)) t132 _ A13.out).mono ?_); rintro e w' ⟨rfl, ⟨nd, rfl⟩⟩) | (go_at_call 16; (with_reducible refine (impl_AccidentalOf.calls (wrap64 ((Int.tmod t125 28) - 15)) t133 _ A14.out).mono ?_); rintro e w' ⟨rfl, ⟨nd, rfl⟩⟩))
            go_ret
            exact ⟨by first | rfl | (simp [errW_none, errW_some] <;> rfl) | (simp [*, errW_none, errW_some] <;> rfl), by repeat (first | (with_reducible first | exact HB.out | apply below_alloc | apply pw_below_drewN | apply below_drew1) | exact HB.out)⟩
        · rw [if_neg c12] at H
          have c12b0 : (t130 == t131) = false := beq_eq_false_iff_ne.mpr c12
          have c12b1 : (t130 != t131) = true := bne_iff_ne.mpr c12
          obtain rfl := Option.some.inj H
          go_enter Try.func6, Try.ntmps6
          go_wp2_with (first | ((with_reducible refine gate_callee (f := 13) rfl ?_); refine goesL_ (some 8) rfl rfl Try.func13 (by kernel_rfl) rfl #[.slice A0 l0.length c0] rfl (by (try simp only [List.map_toArray, List.map_cons, List.map_nil]); first | done | rfl | (simp only [List.length_drop, List.length_take]; rfl)) ?_; (with_reducible refine (laws_big.calls _ _ l0 false _ ?side1 ?side2 A2.out).mono ?_); (case side1 => repeat (first | exact HR0.out | (with_reducible refine Kd.C_alloc ?_ _) | (with_reducible refine Kd.C_drewN ?_ _) | (with_reducible refine Kd.C_drew ?_))); (case side2 => exact HC0.out); rintro e w' ⟨rfl, ⟨nd, rfl⟩⟩; refine ⟨_, rfl, ?_⟩) | ((with_reducible refine gate_callee (f := 14) rfl ?_); refine goesL_ (some 10) rfl rfl Try.func14 (by kernel_rfl) rfl #[.slice A0 l0.length c0, .int .i64 0] rfl (by (try simp only [List.map_toArray, List.map_cons, List.map_nil]); first | done | rfl | (simp only [List.length_drop, List.length_take]; rfl)) ?_; (with_reducible refine (laws_at.calls _ _ l0 0 t125 _ ?side1 ?side2 A4.out).mono ?_); (case side1 => repeat (first | exact HR0.out | (with_reducible refine Kd.C_alloc ?_ _) | (with_reducible refine Kd.C_drewN ?_ _) | (with_reducible refine Kd.C_drew ?_))); (case side2 => exact HC0.out); rintro e w' ⟨rfl, ⟨nd, rfl⟩⟩; refine ⟨_, rfl, ?_⟩) | ((with_reducible refine gate_callee (f := 10) rfl ?_); refine goesL_ (some 15) rfl rfl Try.func10 (by kernel_rfl) rfl #[.int .i64 (wrap64 ((Int.tmod t125 28) - 15))] rfl (by (try simp only [List.map_toArray, List.map_cons, List.map_nil]); first | done | rfl | (simp only [List.length_drop, List.length_take]; rfl)) ?_; (with_reducible refine (impl_NoteName.calls k (wrap64 ((Int.tmod t125 28) - 15)) t126 _ A5.out).mono ?_); rintro e w34 ⟨rfl, hb⟩; refine ⟨_, rfl, ?_⟩; have n0_ := Aside0.mk (below_step (by repeat (first | (with_reducible first | exact HB.out | apply below_alloc | apply pw_below_drewN | apply below_drew1) | exact HB.out)) hb); clear HB; have HB := n0_; clear n0_; (try clear hb); (try clear hb2); (try clear hk); (try clear hi)) | ((with_reducible refine gate_callee (f := 12) rfl ?_); refine goesL_ (some 16) rfl rfl Try.func12 (by kernel_rfl) rfl #[.string t126] rfl (by (try simp only [List.map_toArray, List.map_cons, List.map_nil]); first | done | rfl | (simp only [List.length_drop, List.length_take]; rfl)) ?_; (with_reducible refine (impl_NoteNumber.calls k t126 t127 true _ A6.out).mono ?_); rintro e w35 ⟨rfl, hb⟩; refine ⟨_, rfl, ?_⟩; have n0_ := Aside0.mk (below_step (by repeat (first | (with_reducible first | exact HB.out | apply below_alloc | apply pw_below_drewN | apply below_drew1) | exact HB.out)) hb); clear HB; have HB := n0_; clear n0_; (try clear hb); (try clear hb2); (try clear hk); (try clear hi)) | ((with_reducible refine gate_callee (f := 14) rfl ?_); refine goesL_ (some 20) rfl rfl Try.func14 (by kernel_rfl) rfl #[.slice A0 l0.length c0, .int .i64 1] rfl (by (try simp only [List.map_toArray, List.map_cons, List.map_nil]); first | done | rfl | (simp only [List.length_drop, List.length_take]; rfl)) ?_; (with_reducible refine (laws_at.calls _ _ l0 1 t129 _ ?side1 ?side2 A7.out).mono ?_); (case side1 => repeat (first | exact (Kd.C_below HR0.out HB.out) | (with_reducible refine Kd.C_alloc ?_ _) | (with_reducible refine Kd.C_drewN ?_ _) | (with_reducible refine Kd.C_drew ?_))); (case side2 => exact HC0.out); rintro e w' ⟨rfl, ⟨nd, rfl⟩⟩; refine ⟨_, rfl, ?_⟩) | (go_at_call 15; (with_reducible refine (impl_LetterOf.calls (wrap64 ((wrap64 ((Int.tmod t125 28) - 15)) + 7)) t130 _ A10.out).mono ?_); rintro e w' ⟨rfl, ⟨nd, rfl⟩⟩) | (go_at_call 15; (with_reducible refine (impl_LetterOf.calls (wrap64 ((Int.tmod t125 28) - 15)) t131 _ A11.out).mono ?_); rintro e w' ⟨rfl, ⟨nd, rfl⟩⟩))
          go_ret
          exact ⟨by first | rfl | (simp [errW_none, errW_some] <;> rfl) | (simp [*, errW_none, errW_some] <;> rfl), by repeat (first | (with_reducible first | exact HB.out | apply below_alloc | apply pw_below_drewN | apply below_drew1) | exact HB.out)⟩
      · rw [if_neg c9] at H
        have c9b0 : (t127 == (wrap64 ((Int.tmod t125 28) - 15))) = false := beq_eq_false_iff_ne.mpr c9
        have c9b1 : (t127 != (wrap64 ((Int.tmod t125 28) - 15))) = true := bne_iff_ne.mpr c9
        obtain rfl := Option.some.inj H
        go_enter Try.func6, Try.ntmps6
        go_wp2_with (first | ((with_reducible refine gate_callee (f := 13) rfl ?_); refine goesL_ (some 8) rfl rfl Try.func13 (by kernel_rfl) rfl #[.slice A0 l0.length c0] rfl (by (try simp only [List.map_toArray, List.map_cons, List.map_nil]); first | done | rfl | (simp only [List.length_drop, List.length_take]; rfl)) ?_; (with_reducible refine (laws_big.calls _ _ l0 false _ ?side1 ?side2 A2.out).mono ?_); (case side1 => repeat (first | exact HR0.out | (with_reducible refine Kd.C_alloc ?_ _) | (with_reducible refine Kd.C_drewN ?_ _) | (with_reducible refine Kd.C_drew ?_))); (case side2 => exact HC0.out); rintro e w' ⟨rfl, ⟨nd, rfl⟩⟩; refine ⟨_, rfl, ?_⟩) | ((with_reducible refine gate_callee (f := 14) rfl ?_); refine goesL_ (some 10) rfl rfl Try.func14 (by kernel_rfl) rfl #[.slice A0 l0.length c0, .int .i64 0] rfl (by (try simp only [List.map_toArray, List.map_cons, List.map_nil]); first | done | rfl | (simp only [List.length_drop, List.length_take]; rfl)) ?_; (with_reducible refine (laws_at.calls _ _ l0 0 t125 _ ?side1 ?side2 A4.out).mono ?_); (case side1 => repeat (first | exact HR0.out | (with_reducible refine Kd.C_alloc ?_ _) | (with_reducible refine Kd.C_drewN ?_ _) | (with_reducible refine Kd.C_drew ?_))); (case side2 => exact HC0.out); rintro e w' ⟨rfl, ⟨nd, rfl⟩⟩; refine ⟨_, rfl, ?_⟩) | ((with_reducible refine gate_callee (f := 10) rfl ?_); refine goesL_ (some 15) rfl rfl Try.func10 (by kernel_rfl) rfl #[.int .i64 (wrap64 ((Int.tmod t125 28) - 15))] rfl (by (try simp only [List.map_toArray, List.map_cons, List.map_nil]); first | done | rfl | (simp only [List.length_drop, List.length_take]; rfl)) ?_; (with_reducible refine (impl_NoteName.calls k (wrap64 ((Int.tmod t125 28) - 15)) t126 _ A5.out).mono ?_); rintro e w36 ⟨rfl, hb⟩; refine ⟨_, rfl, ?_⟩; have n0_ := Aside0.mk (below_step (by repeat (first | (with_reducible first | exact HB.out | apply below_alloc | apply pw_below_drewN | apply below_drew1) | exact HB.out)) hb); clear HB; have HB := n0_; clear n0_; (try clear hb); (try clear hb2); (try clear hk); (try clear hi)) | ((with_reducible refine gate_callee (f := 12) rfl ?_); refine goesL_ (some 16) rfl rfl Try.func12 (by kernel_rfl) rfl #[.string t126] rfl (by (try simp only [List.map_toArray, List.map_cons, List.map_nil]); first | done | rfl | (simp only [List.length_drop, List.length_take]; rfl)) ?_; (with_reducible refine (impl_NoteNumber.calls k t126 t127 true _ A6.out).mono ?_); rintro e w37 ⟨rfl, hb⟩; refine ⟨_, rfl, ?_⟩; have n0_ := Aside0.mk (below_step (by repeat (first | (with_reducible first | exact HB.out | apply below_alloc | apply pw_below_drewN | apply below_drew1) | exact HB.out)) hb); clear HB; have HB := n0_; clear n0_; (try clear hb); (try clear hb2); (try clear hk); (try clear hi)) | ((with_reducible refine gate_callee (f := 14) rfl ?_); refine goesL_ (some 20) rfl rfl Try.func14 (by kernel_rfl) rfl #[.slice A0 l0.length c0, .int .i64 1] rfl (by (try simp only [List.map_toArray, List.map_cons, List.map_nil]); first | done | rfl | (simp only [List.length_drop, List.length_take]; rfl)) ?_; (with_reducible refine (laws_at.calls _ _ l0 1 t129 _ ?side1 ?side2 A7.out).mono ?_); (case side1 => repeat (first | exact (Kd.C_below HR0.out HB.out) | (with_reducible refine Kd.C_alloc ?_ _) | (with_reducible refine Kd.C_drewN ?_ _) | (with_reducible refine Kd.C_drew ?_))); (case side2 => exact HC0.out); rintro e w' ⟨rfl, ⟨nd, rfl⟩⟩; refine ⟨_, rfl, ?_⟩))
        go_ret
        exact ⟨by first | rfl | (simp [errW_none, errW_some] <;> rfl) | (simp [*, errW_none, errW_some] <;> rfl), by repeat (first | (with_reducible first | exact HB.out | apply below_alloc | apply pw_below_drewN | apply below_drew1) | exact HB.out)⟩
    · replace c8 := Bool.eq_false_iff.mpr c8
      subst c8
      have H1 : (some false) = some r := by rw [if_neg (show ¬ (false = true) by decide)] at H; exact H
      clear H
      have H := H1
      clear H1
      obtain rfl := Option.some.inj H
      go_enter Try.func6, Try.ntmps6
      go_wp2_with (first | ((with_reducible refine gate_callee (f := 13) rfl ?_); refine goesL_ (some 8) rfl rfl Try.func13 (by kernel_rfl) rfl #[.slice A0 l0.length c0] rfl (by (try simp only [List.map_toArray, List.map_cons, List.map_nil]); first | done | rfl | (simp only [List.length_drop, List.length_take]; rfl)) ?_; (with_reducible refine (laws_big.calls _ _ l0 false _ ?side1 ?side2 A2.out).mono ?_); (case side1 => repeat (first | exact HR0.out | (with_reducible refine Kd.C_alloc ?_ _) | (with_reducible refine Kd.C_drewN ?_ _) | (with_reducible refine Kd.C_drew ?_))); (case side2 => exact HC0.out); rintro e w' ⟨rfl, ⟨nd, rfl⟩⟩; refine ⟨_, rfl, ?_⟩) | ((with_reducible refine gate_callee (f := 14) rfl ?_); refine goesL_ (some 10) rfl rfl Try.func14 (by kernel_rfl) rfl #[.slice A0 l0.length c0, .int .i64 0] rfl (by (try simp only [List.map_toArray, List.map_cons, List.map_nil]); first | done | rfl | (simp only [List.length_drop, List.length_take]; rfl)) ?_; (with_reducible refine (laws_at.calls _ _ l0 0 t125 _ ?side1 ?side2 A4.out).mono ?_); (case side1 => repeat (first | exact HR0.out | (with_reducible refine Kd.C_alloc ?_ _) | (with_reducible refine Kd.C_drewN ?_ _) | (with_reducible refine Kd.C_drew ?_))); (case side2 => exact HC0.out); rintro e w' ⟨rfl, ⟨nd, rfl⟩⟩; refine ⟨_, rfl, ?_⟩) | ((with_reducible refine gate_callee (f := 10) rfl ?_); refine goesL_ (some 15) rfl rfl Try.func10 (by kernel_rfl) rfl #[.int .i64 (wrap64 ((Int.tmod t125 28) - 15))] rfl (by (try simp only [List.map_toArray, List.map_cons, List.map_nil]); first | done | rfl | (simp only [List.length_drop, List.length_take]; rfl)) ?_; (with_reducible refine (impl_NoteName.calls k (wrap64 ((Int.tmod t125 28) - 15)) t126 _ A5.out).mono ?_); rintro e w38 ⟨rfl, hb⟩; refine ⟨_, rfl, ?_⟩; have n0_ := Aside0.mk (below_step (by repeat (first | (with_reducible first | exact HB.out | apply below_alloc | apply pw_below_drewN | apply below_drew1) | exact HB.out)) hb); clear HB; have HB := n0_; clear n0_; (try clear hb); (try clear hb2); (try clear hk); (try clear hi)) | ((with_reducible refine gate_callee (f := 12) rfl ?_); refine goesL_ (some 16) rfl rfl Try.func12 (by kernel_rfl) rfl #[.string t126] rfl (by (try simp only [List.map_toArray, List.map_cons, List.map_nil]); first | done | rfl | (simp only [List.length_drop, List.length_take]; rfl)) ?_; (with_reducible refine (impl_NoteNumber.calls k t126 t127 false _ A6.out).mono ?_); rintro e w39 ⟨rfl, hb⟩; refine ⟨_, rfl, ?_⟩; have n0_ := Aside0.mk (below_step (by repeat (first | (with_reducible first | exact HB.out | apply below_alloc | apply pw_below_drewN | apply below_drew1) | exact HB.out)) hb); clear HB; have HB := n0_; clear n0_; (try clear hb); (try clear hb2); (try clear hk); (try clear hi)) | ((with_reducible refine gate_callee (f := 14) rfl ?_); refine goesL_ (some 20) rfl rfl Try.func14 (by kernel_rfl) rfl #[.slice A0 l0.length c0, .int .i64 1] rfl (by (try simp only [List.map_toArray, List.map_cons, List.map_nil]); first | done | rfl | (simp only [List.length_drop, List.length_take]; rfl)) ?_; (with_reducible refine (laws_at.calls _ _ l0 1 t129 _ ?side1 ?side2 A7.out).mono ?_); (case side1 => repeat (first | exact (Kd.C_below HR0.out HB.out) | (with_reducible refine Kd.C_alloc ?_ _) | (with_reducible refine Kd.C_drewN ?_ _) | (with_reducible refine Kd.C_drew ?_))); (case side2 => exact HC0.out); rintro e w' ⟨rfl, ⟨nd, rfl⟩⟩; refine ⟨_, rfl, ?_⟩))
      go_ret
      exact ⟨by first | rfl | (simp [errW_none, errW_some] <;> rfl) | (simp [*, errW_none, errW_some] <;> rfl), by repeat (first | (with_reducible first | exact HB.out | apply below_alloc | apply pw_below_drewN | apply below_drew1) | exact HB.out)⟩

/-- THE ONE PURE STATEMENT of laws_FnNames: yours. -/
def laws_FnNames.Pure : Prop := ∀ (l0 : List Int), l0.length ≤ maxLen → l0.length * 1 ≤ 140737488351232 → (∀ x ∈ l0, (Lit.int .u8 x).wf = true) → ∃ k, laws_FnNames.f k l0 = some true
end Go.Proofs.Ytoaaldfciabahaa.PFnNames
