/- Contracts of the Go functions that the law FnThreeSteps reaches. Sections as the kit's print.sh writes them, put together by a program of this session (stq.py); what calls into Go's library is this session's walk over the kit's shelf contracts. -/
import Derived.Test.YtfimodphnfejdaaQFnThreeStepsy7
namespace Go.Proofs.Ytfimodphnfejdaa.PFnThreeSteps
open Go.RowKit Go.Proofs.YtfimodphnfejdaaW.PrintWords Go.Proofs.YtfimodphnfejdaaW.PrintLast Go.Proofs.YtfimodphnfejdaaW.PrintMore
attribute [local go_sem] max2_int min2_int max_two min_two max_three min_three max_four min_four
set_option linter.unusedVariables false
set_option linter.unusedSimpArgs false
attribute [local go_sem high] eqA25

/-! ### laws_FnThreeSteps: function 11 -/
mutual
def laws_FnThreeSteps.j0 : Nat → List (S25) → Bool → Option (Bool)
  | 0, _, _ => none
  | k + 1, x6, x53 => if x53 = true then (some false) else ((impl_PureOf.f 0 0 0).bind fun bt377 => (if 0 < (x6.length : Int) then (laws_FnThreeSteps.l0 k x6 0 bt377.1 bt377.2.1 bt377.2.2.1 bt377.2.2.2 ((rd_T25 x6 0).f0) ((rd_T25 x6 0).f1) ((rd_T25 x6 0).f2) ((rd_T25 x6 0).f3) ((rd_T25 x6 0).f0) ((rd_T25 x6 0).f1) ((rd_T25 x6 0).f2) ((rd_T25 x6 0).f3)) else (none)))
def laws_FnThreeSteps.l0 : Nat → List (S25) → Int → Int → Int → Int → Int → Int → Int → Int → Int → Int → Int → Int → Int → Option (Bool)
  | 0, _, _, _, _, _, _, _, _, _, _, _, _, _, _ => none
  | k + 1, x6, x10, x382000, x382001, x382002, x382003, x384000, x384001, x384002, x384003, x386000, x386001, x386002, x386003 => if x10 < (x6.length : Int) then (if 0 ≤ x10 then ((impl_AddIntervals.f k x382000 x382001 x382002 x382003 ((rd_T25 x6 x10).f0) ((rd_T25 x6 x10).f1) ((rd_T25 x6 x10).f2) ((rd_T25 x6 x10).f3)).bind fun bt387 => (if bt387.2.2.2.2 = true then ((impl_SignOf.f k ((rd_T25 x6 x10).f0) ((rd_T25 x6 x10).f1) ((rd_T25 x6 x10).f2) ((rd_T25 x6 x10).f3)).bind fun t394 => (laws_FnThreeSteps.j2 k x6 x10 (decide (t394 ≤ 0)) x384000 x384001 x384002 x384003 x386000 x386001 x386002 x386003 bt387.1 bt387.2.1 bt387.2.2.1 bt387.2.2.2.1)) else (laws_FnThreeSteps.j2 k x6 x10 true x384000 x384001 x384002 x384003 x386000 x386001 x386002 x386003 bt387.1 bt387.2.1 bt387.2.2.1 bt387.2.2.2.1))) else (none)) else (laws_FnThreeSteps.l1 k x6 0 x382000 x382001 x382002 x382003 x384000 x384001 x384002 x384003 x386000 x386001 x386002 x386003)
def laws_FnThreeSteps.j2 : Nat → List (S25) → Int → Bool → Int → Int → Int → Int → Int → Int → Int → Int → Int → Int → Int → Int → Option (Bool)
  | 0, _, _, _, _, _, _, _, _, _, _, _, _, _, _, _ => none
  | k + 1, x6, x10, x85, x384000, x384001, x384002, x384003, x386000, x386001, x386002, x386003, x393000, x393001, x393002, x393003 => if x85 = true then (some false) else (if 0 ≤ x10 then (if x10 < (x6.length : Int) then ((impl_CompareIntervals.f k ((rd_T25 x6 x10).f0) ((rd_T25 x6 x10).f1) ((rd_T25 x6 x10).f2) ((rd_T25 x6 x10).f3) x384000 x384001 x384002 x384003).bind fun t396 => (if t396 > 0 then ((impl_CompareIntervals.f k ((rd_T25 x6 x10).f0) ((rd_T25 x6 x10).f1) ((rd_T25 x6 x10).f2) ((rd_T25 x6 x10).f3) x386000 x386001 x386002 x386003).bind fun t399 => (if t399 < 0 then (laws_FnThreeSteps.l0 k x6 (wrap64 (x10 + 1)) x393000 x393001 x393002 x393003 ((rd_T25 x6 x10).f0) ((rd_T25 x6 x10).f1) ((rd_T25 x6 x10).f2) ((rd_T25 x6 x10).f3) ((rd_T25 x6 x10).f0) ((rd_T25 x6 x10).f1) ((rd_T25 x6 x10).f2) ((rd_T25 x6 x10).f3)) else (laws_FnThreeSteps.l0 k x6 (wrap64 (x10 + 1)) x393000 x393001 x393002 x393003 ((rd_T25 x6 x10).f0) ((rd_T25 x6 x10).f1) ((rd_T25 x6 x10).f2) ((rd_T25 x6 x10).f3) x386000 x386001 x386002 x386003))) else ((impl_CompareIntervals.f k ((rd_T25 x6 x10).f0) ((rd_T25 x6 x10).f1) ((rd_T25 x6 x10).f2) ((rd_T25 x6 x10).f3) x386000 x386001 x386002 x386003).bind fun t402 => (if t402 < 0 then (laws_FnThreeSteps.l0 k x6 (wrap64 (x10 + 1)) x393000 x393001 x393002 x393003 x384000 x384001 x384002 x384003 ((rd_T25 x6 x10).f0) ((rd_T25 x6 x10).f1) ((rd_T25 x6 x10).f2) ((rd_T25 x6 x10).f3)) else (laws_FnThreeSteps.l0 k x6 (wrap64 (x10 + 1)) x393000 x393001 x393002 x393003 x384000 x384001 x384002 x384003 x386000 x386001 x386002 x386003))))) else (none)) else (none))
def laws_FnThreeSteps.l1 : Nat → List (S25) → Int → Int → Int → Int → Int → Int → Int → Int → Int → Int → Int → Int → Int → Option (Bool)
  | 0, _, _, _, _, _, _, _, _, _, _, _, _, _, _ => none
  | k + 1, x6, x13, x382000, x382001, x382002, x382003, x384000, x384001, x384002, x384003, x386000, x386001, x386002, x386003 => if x13 < (x6.length : Int) then (if 0 ≤ x13 then (if (!(((rd_T25 x6 x13).f0) == x384000) || (!(((rd_T25 x6 x13).f1) == x384001) || (!(((rd_T25 x6 x13).f2) == x384002) || (!(((rd_T25 x6 x13).f3) == x384003))))) = true then (laws_FnThreeSteps.j4 k x6 x13 (!(((rd_T25 x6 x13).f0) == x386000) || (!(((rd_T25 x6 x13).f1) == x386001) || (!(((rd_T25 x6 x13).f2) == x386002) || (!(((rd_T25 x6 x13).f3) == x386003))))) x382000 x382001 x382002 x382003 x384000 x384001 x384002 x384003 x386000 x386001 x386002 x386003) else (laws_FnThreeSteps.j4 k x6 x13 false x382000 x382001 x382002 x382003 x384000 x384001 x384002 x384003 x386000 x386001 x386002 x386003)) else (none)) else ((impl_PureOf.f 1 0 0).bind fun bt404 => (some (x382000 == bt404.1 && (x382001 == bt404.2.1 && (x382002 == bt404.2.2.1 && (x382003 == bt404.2.2.2))))))
def laws_FnThreeSteps.j4 : Nat → List (S25) → Int → Bool → Int → Int → Int → Int → Int → Int → Int → Int → Int → Int → Int → Int → Option (Bool)
  | 0, _, _, _, _, _, _, _, _, _, _, _, _, _, _, _ => none
  | k + 1, x6, x13, x128, x382000, x382001, x382002, x382003, x384000, x384001, x384002, x384003, x386000, x386001, x386002, x386003 => if x128 = true then (if 0 ≤ x13 then (if x13 < (x6.length : Int) then ((impl_AddIntervals.f k ((rd_T25 x6 x13).f0) ((rd_T25 x6 x13).f1) ((rd_T25 x6 x13).f2) ((rd_T25 x6 x13).f3) x386000 x386001 x386002 x386003).bind fun bt411 => (if bt411.2.2.2.2 = true then (if (!(bt411.1 == x384000) || (!(bt411.2.1 == x384001) || (!(bt411.2.2.1 == x384002) || (!(bt411.2.2.2.1 == x384003))))) = true then (some false) else (laws_FnThreeSteps.l1 k x6 (wrap64 (x13 + 1)) x382000 x382001 x382002 x382003 x384000 x384001 x384002 x384003 x386000 x386001 x386002 x386003)) else (some false))) else (none)) else (none)) else (laws_FnThreeSteps.l1 k x6 (wrap64 (x13 + 1)) x382000 x382001 x382002 x382003 x384000 x384001 x384002 x384003 x386000 x386001 x386002 x386003)
end
def laws_FnThreeSteps.f (k : Nat) (l0 : List Int) : Option (Bool) := (laws_big.f l0).bind fun t366 => (if t366 = true then (some true) else ((laws_at.f l0 0).bind fun t367 => ((laws_at.f l0 1).bind fun t368 => ((impl_ChainOf.f k (wrap64 (-(Int.tmod t367 13))) (Int.tmod t368 13)).bind fun t369 => ((impl_StepsOf.f k t369).bind fun t372 => (if (t369.length : Int) = (wrap64 ((wrap64 ((Int.tmod t368 13) - (wrap64 (-(Int.tmod t367 13))))) + 1)) then (if (t372.length : Int) = (t369.length : Int) then ((impl_CountSizes.f k t372).bind fun t375 => (if t375 > 3 then (laws_FnThreeSteps.j0 k t372 true) else ((impl_CountSizes.f k t372).bind fun t376 => (laws_FnThreeSteps.j0 k t372 (decide (t376 < 1)))))) else (laws_FnThreeSteps.j0 k t372 true)) else (laws_FnThreeSteps.j0 k t372 true)))))))
def laws_FnThreeSteps.T15 : Bool × List (List Nat × List Nat) := (true, [([], []), ([], []), ([], []), ([1, 2], [1, 2]), ([3], [3]), ([0, 4], [0, 4]), ([5], [5]), ([6], [6]), ([6], [6]), ([], []), ([9, 7, 5, 0, 1, 2, 3, 4, 5, 6, 7, 9], [7, 9]), ([8, 10, 0, 1, 2, 3, 4, 5, 6, 7, 8, 9, 10], [8])])
def laws_FnThreeSteps.B15 : List Nat := [0, 0, 0, 6, 14, 31, 63, 127, 127, 0, 767, 2047]
theorem laws_FnThreeSteps.tab15 : rtab .any (opsOf Try.f11 15) = laws_FnThreeSteps.T15 := by kernel_rfl
theorem laws_FnThreeSteps.bits15 : waitsOk laws_FnThreeSteps.T15.2 laws_FnThreeSteps.B15 = true := by kernel_rfl
def laws_FnThreeSteps.T26 : Bool × List (List Nat × List Nat) := (true, [([], []), ([], []), ([0, 1], [0, 1]), ([2], [2]), ([], []), ([3, 4], [3, 4]), ([5], [5]), ([6], [6]), ([6], [6]), ([7, 8, 6], [6, 7, 8]), ([9, 6], [6, 9]), ([6], [6]), ([10, 11, 6], [6, 10, 11]), ([6, 12], [6, 12])])
def laws_FnThreeSteps.B26 : List Nat := [0, 0, 3, 7, 0, 31, 63, 127, 127, 511, 1023, 127, 4095, 8191]
theorem laws_FnThreeSteps.tab26 : rtab .any (opsOf Try.f11 26) = laws_FnThreeSteps.T26 := by kernel_rfl
theorem laws_FnThreeSteps.bits26 : waitsOk laws_FnThreeSteps.T26.2 laws_FnThreeSteps.B26 = true := by kernel_rfl
def laws_FnThreeSteps.T27 : Bool × List (List Nat × List Nat) := (true, [([], []), ([], []), ([0, 1], [0, 1]), ([2], [2]), ([], []), ([3, 4], [3, 4]), ([5], [5]), ([6], [6]), ([6], [6]), ([], []), ([9, 7, 5, 0, 1, 2, 3, 4, 5, 6, 7, 9], [7, 9]), ([8, 10, 0, 1, 2, 3, 4, 5, 6, 7, 8, 9, 10], [8])])
def laws_FnThreeSteps.B27 : List Nat := [0, 0, 3, 7, 0, 31, 63, 127, 127, 0, 767, 2047]
theorem laws_FnThreeSteps.tab27 : rtab .any (opsOf Try.f11 27) = laws_FnThreeSteps.T27 := by kernel_rfl
theorem laws_FnThreeSteps.bits27 : waitsOk laws_FnThreeSteps.T27.2 laws_FnThreeSteps.B27 = true := by kernel_rfl
theorem laws_FnThreeSteps.j0_true {k : Nat} {r : Bool} {x0 : List (S25)} (h : laws_FnThreeSteps.j0 k x0 true = some r) (hr : r = true) : False := by
  cases k with
  | zero => simp [laws_FnThreeSteps.j0] at h
  | succ k => subst hr; simp [laws_FnThreeSteps.j0] at h
theorem laws_FnThreeSteps.j2_true {k : Nat} {r : Bool} {x0 : List (S25)} {x1 : Int} {x3 : Int} {x4 : Int} {x5 : Int} {x6 : Int} {x7 : Int} {x8 : Int} {x9 : Int} {x10 : Int} {x11 : Int} {x12 : Int} {x13 : Int} {x14 : Int} (h : laws_FnThreeSteps.j2 k x0 x1 true x3 x4 x5 x6 x7 x8 x9 x10 x11 x12 x13 x14 = some r) (hr : r = true) : False := by
  cases k with
  | zero => simp [laws_FnThreeSteps.j2] at h
  | succ k => subst hr; simp [laws_FnThreeSteps.j2] at h
/-- THE ONE PURE STATEMENT of laws_FnThreeSteps: yours. -/
def laws_FnThreeSteps.Pure : Prop := ∀ (l0 : List Int), l0.length ≤ maxLen → l0.length * 1 ≤ 140737488351232 → (∀ x ∈ l0, (Lit.int .u8 x).wf = true) → ∃ k, laws_FnThreeSteps.f k l0 = some true
end Go.Proofs.Ytfimodphnfejdaa.PFnThreeSteps
