/- Contracts of the Go functions that the law FnThreeSteps reaches. Sections as the kit's print.sh writes them, put together by a program of this session (stq.py); what calls into Go's library is this session's walk over the kit's shelf contracts. -/
import Derived.Test.YtfimodphnfejdaaQFnThreeStepsy5
namespace Go.Proofs.Ytfimodphnfejdaa.PFnThreeSteps
open Go.RowKit Go.Proofs.YtfimodphnfejdaaW.PrintWords Go.Proofs.YtfimodphnfejdaaW.PrintLast Go.Proofs.YtfimodphnfejdaaW.PrintMore
attribute [local go_sem] max2_int min2_int max_two min_two max_three min_three max_four min_four
set_option linter.unusedVariables false
set_option linter.unusedSimpArgs false
attribute [local go_sem high] eqA25

/-! ### impl_StepsOf: function 39 -/
theorem put8 {w : World} {g : Nat} {t : TypeId} {v0 v1 v2 v3 : Value} (h : w.heap[g]? = some (.cells #[v0, v1, v2, v3] t (0, 0))) (a b c d a' b' c' d' : Value) :
    ((((((((w.setCell ⟨g, 0, none⟩ a).setCell ⟨g, 1, none⟩ b).setCell ⟨g, 2, none⟩ c).setCell ⟨g, 3, none⟩ d).setCell ⟨g, 0, none⟩ a').setCell ⟨g, 1, none⟩ b').setCell ⟨g, 2, none⟩ c').setCell ⟨g, 3, none⟩ d').heap[g]? = some (.cells #[a', b', c', d'] t (0, 0)) := by
  refine blk_put (cs := #[a', b', c', d]) ?_ 3 _ rfl
  refine blk_put (cs := #[a', b', c, d]) ?_ 2 _ rfl
  refine blk_put (cs := #[a', b, c, d]) ?_ 1 _ rfl
  refine blk_put (cs := #[a, b, c, d]) ?_ 0 _ rfl
  refine blk_put (cs := #[a, b, c, v3]) ?_ 3 _ rfl
  refine blk_put (cs := #[a, b, v2, v3]) ?_ 2 _ rfl
  refine blk_put (cs := #[a, v1, v2, v3]) ?_ 1 _ rfl
  refine blk_put (cs := #[v0, v1, v2, v3]) ?_ 0 _ rfl
  exact h
theorem put8_0 {w : World} {g : Nat} {t : TypeId} {v0 v1 v2 v3 : Value} (h : w.heap[g]? = some (.cells #[v0, v1, v2, v3] t (0, 0))) (a b c d a' b' c' d' : Value) :
    ((((((((w.setCell ⟨g, 0, none⟩ a).setCell ⟨g, 1, none⟩ b).setCell ⟨g, 2, none⟩ c).setCell ⟨g, 3, none⟩ d).setCell ⟨g, 0, none⟩ a').setCell ⟨g, 1, none⟩ b').setCell ⟨g, 2, none⟩ c').setCell ⟨g, 3, none⟩ d').cell? ⟨g, 0, none⟩ = some a' := (blk_cell (put8 h a b c d a' b' c' d') 0).trans rfl
theorem put8_1 {w : World} {g : Nat} {t : TypeId} {v0 v1 v2 v3 : Value} (h : w.heap[g]? = some (.cells #[v0, v1, v2, v3] t (0, 0))) (a b c d a' b' c' d' : Value) :
    ((((((((w.setCell ⟨g, 0, none⟩ a).setCell ⟨g, 1, none⟩ b).setCell ⟨g, 2, none⟩ c).setCell ⟨g, 3, none⟩ d).setCell ⟨g, 0, none⟩ a').setCell ⟨g, 1, none⟩ b').setCell ⟨g, 2, none⟩ c').setCell ⟨g, 3, none⟩ d').cell? ⟨g, 1, none⟩ = some b' := (blk_cell (put8 h a b c d a' b' c' d') 1).trans rfl
theorem put8_2 {w : World} {g : Nat} {t : TypeId} {v0 v1 v2 v3 : Value} (h : w.heap[g]? = some (.cells #[v0, v1, v2, v3] t (0, 0))) (a b c d a' b' c' d' : Value) :
    ((((((((w.setCell ⟨g, 0, none⟩ a).setCell ⟨g, 1, none⟩ b).setCell ⟨g, 2, none⟩ c).setCell ⟨g, 3, none⟩ d).setCell ⟨g, 0, none⟩ a').setCell ⟨g, 1, none⟩ b').setCell ⟨g, 2, none⟩ c').setCell ⟨g, 3, none⟩ d').cell? ⟨g, 2, none⟩ = some c' := (blk_cell (put8 h a b c d a' b' c' d') 2).trans rfl
theorem put8_3 {w : World} {g : Nat} {t : TypeId} {v0 v1 v2 v3 : Value} (h : w.heap[g]? = some (.cells #[v0, v1, v2, v3] t (0, 0))) (a b c d a' b' c' d' : Value) :
    ((((((((w.setCell ⟨g, 0, none⟩ a).setCell ⟨g, 1, none⟩ b).setCell ⟨g, 2, none⟩ c).setCell ⟨g, 3, none⟩ d).setCell ⟨g, 0, none⟩ a').setCell ⟨g, 1, none⟩ b').setCell ⟨g, 2, none⟩ c').setCell ⟨g, 3, none⟩ d').cell? ⟨g, 3, none⟩ = some d' := (blk_cell (put8 h a b c d a' b' c' d') 3).trans rfl
mutual
def impl_StepsOf.j0 : Nat → List (S25) → Bool → Int → Int → Int → Int → Int → Int → Int → Int → Option ((List (S25)))
  | 0, _, _, _, _, _, _, _, _, _, _ => none
  | k + 1, x0, x23, x319000, x319001, x319002, x319003, x324000, x324001, x324002, x324003 => if x23 = true then (some ([] : List (S25))) else (impl_StepsOf.l0 k x0 x0 (x0.length : Int) 0 x319000 x319001 x319002 x319003 x324000 x324001 x324002 x324003)
def impl_StepsOf.l0 : Nat → List (S25) → List (S25) → Int → Int → Int → Int → Int → Int → Int → Int → Int → Int → Option ((List (S25)))
  | 0, _, _, _, _, _, _, _, _, _, _, _, _ => none
  | k + 1, x0, x24, x25, x26, x319000, x319001, x319002, x319003, x324000, x324001, x324002, x324003 => if x26 < x25 then (if 0 ≤ x26 then (if x26 < (x24.length : Int) then ((impl_IntervalOk.f ((rd_T25 x24 x26).f0) ((rd_T25 x24 x26).f1) ((rd_T25 x24 x26).f2) ((rd_T25 x24 x26).f3)).bind fun t326 => (if t326 = true then ((impl_CompareIntervals.f k ((rd_T25 x24 x26).f0) ((rd_T25 x24 x26).f1) ((rd_T25 x24 x26).f2) ((rd_T25 x24 x26).f3) x319000 x319001 x319002 x319003).bind fun t327 => (if t327 < 0 then (some ([] : List (S25))) else ((impl_CompareIntervals.f k ((rd_T25 x24 x26).f0) ((rd_T25 x24 x26).f1) ((rd_T25 x24 x26).f2) ((rd_T25 x24 x26).f3) x324000 x324001 x324002 x324003).bind fun t328 => (if t328 ≥ 0 then (some ([] : List (S25))) else (impl_StepsOf.l0 k x0 x24 x25 (wrap64 (x26 + 1)) x319000 x319001 x319002 x319003 x324000 x324001 x324002 x324003))))) else (some ([] : List (S25))))) else (none)) else (none)) else (if 0 < (x0.length : Int) then ((impl_SameSize.f k ((rd_T25 x0 0).f0) ((rd_T25 x0 0).f1) ((rd_T25 x0 0).f2) ((rd_T25 x0 0).f3) x319000 x319001 x319002 x319003).bind fun t330 => (if t330 = true then (impl_StepsOf.l1 k x0 1 x324000 x324001 x324002 x324003) else (some ([] : List (S25))))) else (none))
def impl_StepsOf.l1 : Nat → List (S25) → Int → Int → Int → Int → Int → Option ((List (S25)))
  | 0, _, _, _, _, _, _ => none
  | k + 1, x0, x7, x324000, x324001, x324002, x324003 => if x7 < (x0.length : Int) then (if 0 ≤ (wrap64 (x7 - 1)) then (if (wrap64 (x7 - 1)) < (x0.length : Int) then (if 0 ≤ x7 then ((impl_CompareIntervals.f k ((rd_T25 x0 (wrap64 (x7 - 1))).f0) ((rd_T25 x0 (wrap64 (x7 - 1))).f1) ((rd_T25 x0 (wrap64 (x7 - 1))).f2) ((rd_T25 x0 (wrap64 (x7 - 1))).f3) ((rd_T25 x0 x7).f0) ((rd_T25 x0 x7).f1) ((rd_T25 x0 x7).f2) ((rd_T25 x0 x7).f3)).bind fun t333 => (if t333 ≥ 0 then (some ([] : List (S25))) else (impl_StepsOf.l1 k x0 (wrap64 (x7 + 1)) x324000 x324001 x324002 x324003))) else (none)) else (none)) else (none)) else (impl_StepsOf.l2 k x0 (([] : List (S25))) x0 (x0.length : Int) 0 x324000 x324001 x324002 x324003)
def impl_StepsOf.l2 : Nat → List (S25) → List (S25) → List (S25) → Int → Int → Int → Int → Int → Int → Option ((List (S25)))
  | 0, _, _, _, _, _, _, _, _, _ => none
  | k + 1, x0, x8, x70, x71, x72, x324000, x324001, x324002, x324003 => if x72 < x71 then (if 0 ≤ x72 then (if x72 < (x70.length : Int) then (if (wrap64 (x72 + 1)) < (x0.length : Int) then (if 0 ≤ (wrap64 (x72 + 1)) then ((impl_minus.f k ((rd_T25 x0 (wrap64 (x72 + 1))).f0) ((rd_T25 x0 (wrap64 (x72 + 1))).f1) ((rd_T25 x0 (wrap64 (x72 + 1))).f2) ((rd_T25 x0 (wrap64 (x72 + 1))).f3) ((rd_T25 x70 x72).f0) ((rd_T25 x70 x72).f1) ((rd_T25 x70 x72).f2) ((rd_T25 x70 x72).f3)).bind fun bt341 => (if bt341.2.2.2.2 = true then (if x8.length < 4398046511104 then (impl_StepsOf.l2 k x0 (x8 ++ [(⟨bt341.1, bt341.2.1, bt341.2.2.1, bt341.2.2.2.1⟩ : S25)]) x70 x71 (wrap64 (x72 + 1)) x324000 x324001 x324002 x324003) else (none)) else (some ([] : List (S25))))) else (none)) else ((impl_minus.f k x324000 x324001 x324002 x324003 ((rd_T25 x70 x72).f0) ((rd_T25 x70 x72).f1) ((rd_T25 x70 x72).f2) ((rd_T25 x70 x72).f3)).bind fun bt350 => (if bt350.2.2.2.2 = true then (if x8.length < 4398046511104 then (impl_StepsOf.l2 k x0 (x8 ++ [(⟨bt350.1, bt350.2.1, bt350.2.2.1, bt350.2.2.2.1⟩ : S25)]) x70 x71 (wrap64 (x72 + 1)) x324000 x324001 x324002 x324003) else (none)) else (some ([] : List (S25)))))) else (none)) else (none)) else (some x8)
end
def impl_StepsOf.f (k : Nat) (l0 : List (S25)) : Option ((List (S25))) := (impl_PureOf.f 0 0 0).bind fun bt314 => ((impl_PureOf.f 1 0 0).bind fun bt319 => (if (l0.length : Int) = 0 then (impl_StepsOf.j0 k l0 true bt314.1 bt314.2.1 bt314.2.2.1 bt314.2.2.2 bt319.1 bt319.2.1 bt319.2.2.1 bt319.2.2.2) else (impl_StepsOf.j0 k l0 (decide ((l0.length : Int) > 61)) bt314.1 bt314.2.1 bt314.2.2.1 bt314.2.2.2 bt319.1 bt319.2.1 bt319.2.2.1 bt319.2.2.2)))
def impl_StepsOf.T16 : Bool × List (List Nat × List Nat) := (true, [([], []), ([], []), ([1], [1]), ([0, 2], [0, 2]), ([3], [3]), ([], []), ([], []), ([5, 6], [5, 6]), ([7], [7]), ([4, 8], [4, 8]), ([9], [9])])
def impl_StepsOf.B16 : List Nat := [0, 0, 2, 7, 15, 0, 0, 96, 224, 511, 1023]
theorem impl_StepsOf.tab16 : rtab .any (opsOf Try.f39 16) = impl_StepsOf.T16 := by kernel_rfl
theorem impl_StepsOf.bits16 : waitsOk impl_StepsOf.T16.2 impl_StepsOf.B16 = true := by kernel_rfl
set_option maxHeartbeats 8000000 in
set_option maxRecDepth 100000 in
theorem impl_StepsOf.calls (k : Nat) (A0 : Option Addr) (c0 : Nat) (l0 : List (S25)) (r : List (S25)) (w : World) (hr0 : Kd.C k25 w A0 l0.length l0) (hc0 : l0.length ≤ c0) (h : impl_StepsOf.f k l0 = some r) :
    Calls Try.prog 39 #[.slice A0 l0.length c0] w fun e w' => ∃ v0_ : Value, e = .returned (v0_) ∧ Kd.R k25 25 w' w.heap.size (fun _ => True) v0_ r ∧ Below w.heap.size w w' := by
 have hu25 := Try.underlying25
 have HR0 := mA hr0
 have HC0 := mA hc0
 clear hr0 hc0
 have HB := mA (Below.refl w.heap.size w)
 have H : ((impl_PureOf.f 0 0 0).bind fun bt314 => ((impl_PureOf.f 1 0 0).bind fun bt319 => (if (l0.length : Int) = 0 then (impl_StepsOf.j0 k l0 true bt314.1 bt314.2.1 bt314.2.2.1 bt314.2.2.2 bt319.1 bt319.2.1 bt319.2.2.1 bt319.2.2.2) else (impl_StepsOf.j0 k l0 (decide ((l0.length : Int) > 61)) bt314.1 bt314.2.1 bt314.2.2.1 bt314.2.2.2 bt319.1 bt319.2.1 bt319.2.2.1 bt319.2.2.2)))) = some r := h
 clear h
 replace H := Option.bind_eq_some_iff.mp H
 obtain ⟨⟨t314, t315, t316, t317⟩, A20, H⟩ := H
 replace H : ((impl_PureOf.f 1 0 0).bind fun bt319 => (if (l0.length : Int) = 0 then (impl_StepsOf.j0 k l0 true t314 t315 t316 t317 bt319.1 bt319.2.1 bt319.2.2.1 bt319.2.2.2) else (impl_StepsOf.j0 k l0 (decide ((l0.length : Int) > 61)) t314 t315 t316 t317 bt319.1 bt319.2.1 bt319.2.2.1 bt319.2.2.2))) = some r := H
 have A2 := mA A20
 clear A20
 replace H := Option.bind_eq_some_iff.mp H
 obtain ⟨⟨t319, t320, t321, t322⟩, A30, H⟩ := H
 replace H : (if (l0.length : Int) = 0 then (impl_StepsOf.j0 k l0 true t314 t315 t316 t317 t319 t320 t321 t322) else (impl_StepsOf.j0 k l0 (decide ((l0.length : Int) > 61)) t314 t315 t316 t317 t319 t320 t321 t322)) = some r := H
 have A3 := mA A30
 clear A30
 have HC4 := mA H
 clear H
 go_enter Try.func39, Try.ntmps39
 go_upto_region 3 with (first | ((with_reducible refine gate_callee (f := 25) rfl ?_); refine goesL_ (some 14) rfl rfl Try.func25 (by kernel_rfl) rfl #[.int .i64 0, .int .i64 0, .int .i64 0] rfl (by (try simp only [List.map_toArray, List.map_cons, List.map_nil]); first | done | rfl | (simp only [List.length_drop, List.length_take]; rfl)) ?_; (with_reducible refine (impl_PureOf.calls 0 0 0 t314 t315 t316 t317 _ A2.out).mono ?_); rintro e w5 ⟨rfl, hb⟩; refine ⟨_, rfl, ?_⟩; have n0_ := mA (below_step (by repeat (first | (with_reducible first | exact HB.out | apply below_alloc | apply pw_below_drewN | apply below_drew1) | exact HB.out)) hb); clear HB; have HB := n0_; clear n0_; (try clear hb); (try clear hb2); (try clear hk); (try clear hi)) | ((with_reducible refine gate_dst (N := 3) rfl ?_); (try (refine gate_guard (by rfl) ?_; dsimp only)); refine box_event ?hg (N := 3) ?hd (cs := #[.int .i64 0, .int .i64 0, .int .i64 0, .int .i64 0]) (t := 25) ?hr ?_; (case hd => rfl); (case hg => rfl); (case hr => first | (go_simp; done) | (go_simp; rfl)); intro Za hg w6 hbox hb; have n0_ := mA (below_step (by repeat (first | (with_reducible first | exact HB.out | apply below_alloc | apply pw_below_drewN | apply below_drew1) | exact HB.out)) hb); have n1_ := mA (hbox); have n2_ := mA ((by rw [hg]; exact (below_size (by repeat (first | (with_reducible first | exact HB.out | apply below_alloc | apply pw_below_drewN | apply below_drew1) | exact HB.out))) : w.heap.size ≤ Za)); have n3_ := mA ((by rw [hg]; exact (below_size (by repeat (first | (with_reducible first | exact HB.out | apply below_alloc | apply pw_below_drewN | apply below_drew1) | exact HB.out))) : w.heap.size ≤ Za)); clear HB; have HB := n0_; have Zb := n1_; have Zc := n2_; have Zd := n3_; clear n0_ n1_ n2_ n3_; clear hb hbox hg; have Ze : w6.cell? ⟨Za, 0, none⟩ = some (.int .i64 0) := (blk_cell Zb.out 0).trans rfl; have Zf : w6.cell? ⟨Za, 1, none⟩ = some (.int .i64 0) := (blk_cell Zb.out 1).trans rfl; have Zg : w6.cell? ⟨Za, 2, none⟩ = some (.int .i64 0) := (blk_cell Zb.out 2).trans rfl; have Zh : w6.cell? ⟨Za, 3, none⟩ = some (.int .i64 0) := (blk_cell Zb.out 3).trans rfl; have Zi := blk_frozen Zb.out 0; have Zj := blk_frozen Zb.out 1; have Zk := blk_frozen Zb.out 2; have Zm := blk_frozen Zb.out 3) | ((with_reducible refine gate_callee (f := 25) rfl ?_); refine goesL_ (some 15) rfl rfl Try.func25 (by kernel_rfl) rfl #[.int .i64 1, .int .i64 0, .int .i64 0] rfl (by (try simp only [List.map_toArray, List.map_cons, List.map_nil]); first | done | rfl | (simp only [List.length_drop, List.length_take]; rfl)) ?_; (with_reducible refine (impl_PureOf.calls 1 0 0 t319 t320 t321 t322 _ A3.out).mono ?_); rintro e w8 ⟨rfl, hb⟩; refine ⟨_, rfl, ?_⟩; have n0_ := mA (blk_below (g := Za) (o := cQ25 t314 t315 t316 t317) (by (with_reducible repeat (first | refine blk_drewN ?_ _ | refine blk_drew ?_ | refine blk_alloc ?_ _)); refine put4 (v0 := .int .i64 0) (v1 := .int .i64 0) (v2 := .int .i64 0) (v3 := .int .i64 0) ?_ _ _ _ _; (with_reducible repeat (first | refine blk_drewN ?_ _ | refine blk_drew ?_ | refine blk_alloc ?_ _)); exact Zb.out) hb); have n1_ := mA (below_step (by repeat (first | (with_reducible first | exact HB.out | apply below_alloc | apply pw_below_drewN | apply below_drew1 | refine below_set ?_ Zd.out) | exact HB.out)) hb); clear Zb; clear HB; have Zb := n0_; have HB := n1_; clear n0_ n1_; (try clear hb); (try clear hb2); (try clear hk); (try clear hi)) | ((with_reducible refine gate_dst (N := 4) rfl ?_); (try (refine gate_guard (by rfl) ?_; dsimp only)); refine box_event ?hg (N := 4) ?hd (cs := #[.int .i64 0, .int .i64 0, .int .i64 0, .int .i64 0]) (t := 25) ?hr ?_; (case hd => rfl); (case hg => rfl); (case hr => first | (go_simp; done) | (go_simp; rfl)); intro Zn hg w9 hbox hb; have n0_ := mA (blk_below (g := Za) (o := cQ25 t314 t315 t316 t317) Zb.out hb); have n1_ := mA (below_step (by repeat (first | (with_reducible first | exact HB.out | apply below_alloc | apply pw_below_drewN | apply below_drew1 | refine below_set ?_ Zd.out) | exact HB.out)) hb); have n2_ := mA (hbox); have n3_ := mA ((by rw [hg]; exact (below_size (by repeat (first | (with_reducible first | exact HB.out | apply below_alloc | apply pw_below_drewN | apply below_drew1 | refine below_set ?_ Zd.out) | exact HB.out))) : w.heap.size ≤ Zn)); have n4_ := mA ((by rw [hg]; exact (below_size (by repeat (first | (with_reducible first | exact HB.out | apply below_alloc | apply pw_below_drewN | apply below_drew1 | refine below_set ?_ Zd.out) | exact HB.out))) : w.heap.size ≤ Zn)); have n5_ := mA ((by rw [hg]; exact Nat.ne_of_lt (blk_lt (g := Za) (o := cQ25 t314 t315 t316 t317) Zb.out) : Za ≠ Zn)); have n6_ := mA ((by rw [hg]; exact Nat.ne_of_gt (blk_lt (g := Za) (o := cQ25 t314 t315 t316 t317) Zb.out) : Zn ≠ Za)); clear Zb; clear HB; have Zb := n0_; have HB := n1_; have Zp := n2_; have Zq := n3_; have Zr := n4_; have Zs := n5_; have Zt := n6_; clear n0_ n1_ n2_ n3_ n4_ n5_ n6_; clear hb hbox hg; have Zu := Zt.out; have Zv := Zs.out; have Zw : w9.cell? ⟨Zn, 0, none⟩ = some (.int .i64 0) := (blk_cell Zp.out 0).trans rfl; have Zx : w9.cell? ⟨Zn, 1, none⟩ = some (.int .i64 0) := (blk_cell Zp.out 1).trans rfl; have Zy : w9.cell? ⟨Zn, 2, none⟩ = some (.int .i64 0) := (blk_cell Zp.out 2).trans rfl; have Zz : w9.cell? ⟨Zn, 3, none⟩ = some (.int .i64 0) := (blk_cell Zp.out 3).trans rfl; have Zba := blk_frozen Zp.out 0; have Zbb := blk_frozen Zp.out 1; have Zbc := blk_frozen Zp.out 2; have Zbd := blk_frozen Zp.out 3))
 (try simp only [Act.put, List.setIfInBounds_toArray, List.set_cons_zero, List.set_cons_succ])
 go_cut [23] (fun v23 wc => ∃ (kq : Nat) (x23_3 : Bool), v23 = .bool x23_3 ∧ Aside0 (impl_StepsOf.j0 kq l0 x23_3 t314 t315 t316 t317 t319 t320 t321 t322 = some r) ∧ Aside0 (kq ≤ k) ∧ Aside0 (wc.heap[Za]? = some (.cells #[.int .i64 t314, .int .i64 t315, .int .i64 t316, .int .i64 t317] 25 (0, 0))) ∧ Aside0 (wc.heap[Zn]? = some (.cells #[.int .i64 t319, .int .i64 t320, .int .i64 t321, .int .i64 t322] 25 (0, 0))) ∧ Aside0 (Below w.heap.size w wc))
 case first =>
  have H := HC4.out
  clear HC4
  by_cases c12 : (l0.length : Int) = 0
  case pos =>
   rw [if_pos c12] at H
   have c12b0 : ((l0.length : Int) == 0) = true := beq_iff_eq.mpr c12
   have c12b1 : ((l0.length : Int) != 0) = false := bne_eq_false_iff_eq.mpr c12
   clear c12
   (first | rw [c12b0] | (simp only [i64_w, i32_w]; rw [c12b0]) | skip)
   have H' := mA H
   clear H
   go_wp2
   go_meet
   case rel => exact ⟨_, (true), (by first | rfl | (simp; done) | (simp [*]; done)), H', ⟨by first | omega | exact Nat.le_refl _⟩, ⟨by (with_reducible repeat (first | refine blk_drewN ?_ _ | refine blk_drew ?_ | refine blk_alloc ?_ _)); refine far4 ?_ Zs.out _ _ _ _; (with_reducible repeat (first | refine blk_drewN ?_ _ | refine blk_drew ?_ | refine blk_alloc ?_ _)); exact Zb.out⟩, ⟨by (with_reducible repeat (first | refine blk_drewN ?_ _ | refine blk_drew ?_ | refine blk_alloc ?_ _)); refine put4 (v0 := .int .i64 0) (v1 := .int .i64 0) (v2 := .int .i64 0) (v3 := .int .i64 0) ?_ _ _ _ _; (with_reducible repeat (first | refine blk_drewN ?_ _ | refine blk_drew ?_ | refine blk_alloc ?_ _)); exact Zp.out⟩, ⟨by repeat (first | (with_reducible first | exact HB.out | apply below_alloc | apply pw_below_drewN | apply below_drew1 | refine below_set ?_ Zd.out | refine below_set ?_ Zr.out) | exact HB.out)⟩⟩
  rw [if_neg c12] at H
  have c12b0 : ((l0.length : Int) == 0) = false := beq_eq_false_iff_ne.mpr c12
  have c12b1 : ((l0.length : Int) != 0) = true := bne_iff_ne.mpr c12
  have c12b2 : ¬ (l0 = []) := fun h_ => c12 (by rw [h_]; rfl)
  (first | rw [c12b0] | (simp only [i64_w, i32_w]; rw [c12b0]) | skip)
  have H' := mA H
  clear H
  go_wp2
  go_meet
  case rel => exact ⟨_, (decide ((l0.length : Int) > 61)), (by first | rfl | (simp; done) | (simp [*]; done)), H', ⟨by first | omega | exact Nat.le_refl _⟩, ⟨by (with_reducible repeat (first | refine blk_drewN ?_ _ | refine blk_drew ?_ | refine blk_alloc ?_ _)); refine far4 ?_ Zs.out _ _ _ _; (with_reducible repeat (first | refine blk_drewN ?_ _ | refine blk_drew ?_ | refine blk_alloc ?_ _)); exact Zb.out⟩, ⟨by (with_reducible repeat (first | refine blk_drewN ?_ _ | refine blk_drew ?_ | refine blk_alloc ?_ _)); refine put4 (v0 := .int .i64 0) (v1 := .int .i64 0) (v2 := .int .i64 0) (v3 := .int .i64 0) ?_ _ _ _ _; (with_reducible repeat (first | refine blk_drewN ?_ _ | refine blk_drew ?_ | refine blk_alloc ?_ _)); exact Zp.out⟩, ⟨by repeat (first | (with_reducible first | exact HB.out | apply below_alloc | apply pw_below_drewN | apply below_drew1 | refine below_set ?_ Zd.out | refine below_set ?_ Zr.out) | exact HB.out)⟩⟩
 clear HC4
 try clear c1
 try clear c2
 try clear p2
 try clear c3
 try clear c10
 try clear c12
 try clear c12b0
 try clear c12b1
 try clear c12b2
 try clear Zw
 try clear Zx
 try clear Zy
 try clear Zz
 try clear Ze
 try clear Zf
 try clear Zg
 try clear Zh
 try clear Zba
 try clear Zbb
 try clear Zbc
 try clear Zbd
 try clear Zi
 try clear Zj
 try clear Zk
 try clear Zm
 obtain ⟨kq, x23_3, rfl, HA, HJ3, Zb, Zp, HB⟩ := hcut
 cases kq with
 | zero => exact absurd HA.out (by simp [impl_StepsOf.j0])
 | succ kj3 =>
 have H := HA.out
 clear HA
 simp only [impl_StepsOf.j0] at H
 by_cases c13 : x23_3 = true
 case pos =>
  subst c13
  have H1 : (some ([] : List (S25))) = some r := by rw [if_pos rfl] at H; exact H
  clear H
  have H := H1
  clear H1
  obtain rfl := Option.some.inj H
  go_wp2
  go_ret
  exact ⟨_, by first | rfl | (simp [errW_none, errW_some] <;> rfl) | (simp [*, errW_none, errW_some] <;> rfl), by first | exact Kd.R_nil _ _ _ _ _ | exact Kd.N_nil _ _ _ _ _ | exact Kd.V_nil _ _ _ _ _ | exact Kd.Q_nil _ _ _ _ _ | exact Kd.S_nil _ _ _ _ _, by repeat (first | (with_reducible first | exact HB.out | apply below_alloc | apply pw_below_drewN | apply below_drew1 | refine below_set ?_ Zd.out | refine below_set ?_ Zr.out) | exact HB.out)⟩
 replace c13 := Bool.eq_false_iff.mpr c13
 subst c13
 have H1 : (impl_StepsOf.l0 kj3 l0 l0 (l0.length : Int) 0 t314 t315 t316 t317 t319 t320 t321 t322) = some r := by rw [if_neg (show ¬ (false = true) by decide)] at H; exact H
 clear H
 have H := H1
 clear H1
 have H' := mA H
 clear H
 go_wp2
 go_loopg [26] kj3 (fun kq v26 w' => ∃ (x26_2 : Int), v26 = .int .i64 x26_2 ∧ Aside0 (impl_StepsOf.l0 kq l0 l0 (l0.length : Int) x26_2 t314 t315 t316 t317 t319 t320 t321 t322 = some r) ∧ Aside0 (kq ≤ kj3) ∧ Aside0 (w'.heap[Za]? = some (.cells #[.int .i64 t314, .int .i64 t315, .int .i64 t316, .int .i64 t317] 25 (0, 0))) ∧ Aside0 (w'.heap[Zn]? = some (.cells #[.int .i64 t319, .int .i64 t320, .int .i64 t321, .int .i64 t322] 25 (0, 0))) ∧ Aside0 (Below w.heap.size w w'))
 case atStart => exact ⟨(0), (by first | rfl | (simp; done) | (simp [*]; done)), H', ⟨Nat.le_refl _⟩, ⟨by (with_reducible repeat (first | refine blk_drewN ?_ _ | refine blk_drew ?_ | refine blk_alloc ?_ _)); exact Zb.out⟩, ⟨by (with_reducible repeat (first | refine blk_drewN ?_ _ | refine blk_drew ?_ | refine blk_alloc ?_ _)); exact Zp.out⟩, ⟨by repeat (first | (with_reducible first | exact HB.out | apply below_alloc | apply pw_below_drewN | apply below_drew1 | refine below_set ?_ Zd.out | refine below_set ?_ Zr.out) | exact HB.out)⟩⟩
 clear H'
 try clear c1
 try clear c2
 try clear p2
 try clear c3
 try clear c10
 try clear c12
 try clear c12b0
 try clear c12b1
 try clear c12b2
 try clear c13
 try clear Zw
 try clear Zx
 try clear Zy
 try clear Zz
 try clear Ze
 try clear Zf
 try clear Zg
 try clear Zh
 try clear Zba
 try clear Zbb
 try clear Zbc
 try clear Zbd
 try clear Zi
 try clear Zj
 try clear Zk
 try clear Zm
 try clear p2
 obtain ⟨x26_2, rfl, HA, HK2, Zb, Zp, HB⟩ := hrel
 cases gk with
 | zero => exact absurd HA.out (by simp [impl_StepsOf.l0])
 | succ k2 =>
 have H := HA.out
 clear HA
 simp only [impl_StepsOf.l0] at H
 by_cases c14 : x26_2 < (l0.length : Int)
 case pos =>
  rw [if_pos c14] at H
  have c14b0 : decide (x26_2 < (l0.length : Int)) = true := decide_eq_true c14
  clear c14
  by_cases c15 : 0 ≤ x26_2
  case neg =>
   rw [if_neg c15] at H
   exact absurd H (by simp)
  rw [if_pos c15] at H
  have c15b0 : decide (0 ≤ x26_2) = true := decide_eq_true c15
  clear c15
  by_cases c16 : x26_2 < (l0.length : Int)
  case neg =>
   rw [if_neg c16] at H
   exact absurd H (by simp)
  rw [if_pos c16] at H
  have c16b0 : decide (x26_2 < (l0.length : Int)) = true := decide_eq_true c16
  clear c16
  replace H := Option.bind_eq_some_iff.mp H
  obtain ⟨t326, A170, H⟩ := H
  replace H : (if t326 = true then ((impl_CompareIntervals.f k2 ((rd_T25 l0 x26_2).f0) ((rd_T25 l0 x26_2).f1) ((rd_T25 l0 x26_2).f2) ((rd_T25 l0 x26_2).f3) t314 t315 t316 t317).bind fun t327 => (if t327 < 0 then (some ([] : List (S25))) else ((impl_CompareIntervals.f k2 ((rd_T25 l0 x26_2).f0) ((rd_T25 l0 x26_2).f1) ((rd_T25 l0 x26_2).f2) ((rd_T25 l0 x26_2).f3) t319 t320 t321 t322).bind fun t328 => (if t328 ≥ 0 then (some ([] : List (S25))) else (impl_StepsOf.l0 k2 l0 l0 (l0.length : Int) (wrap64 (x26_2 + 1)) t314 t315 t316 t317 t319 t320 t321 t322))))) else (some ([] : List (S25)))) = some r := H
  have A17 := mA A170
  clear A170
  by_cases c18 : t326 = true
  case neg =>
   replace c18 := Bool.eq_false_iff.mpr c18
   subst c18
   have H1 : (some ([] : List (S25))) = some r := by rw [if_neg (show ¬ (false = true) by decide)] at H; exact H
   clear H
   have H := H1
   clear H1
   obtain rfl := Option.some.inj H
   have p324 : 0 ≤ (x26_2 : Int) := of_decide_eq_true (by first | (with_reducible assumption) | assumption)
   have q324 : x26_2 < (l0.length : Int) := of_decide_eq_true (by first | (with_reducible assumption) | assumption)
   obtain ⟨ad324, e324, hx324_0, hx324_1, hx324_2, hx324_3⟩ := at_T25 HR0.out x26_2 p324 q324
   cases e324
   replace hx324_0 := (HB.out.cell (World.block_lt_of_cell? w _ hx324_0)).trans hx324_0
   replace hx324_1 := (HB.out.cell (World.block_lt_of_cell? w _ hx324_1)).trans hx324_1
   replace hx324_2 := (HB.out.cell (World.block_lt_of_cell? w _ hx324_2)).trans hx324_2
   replace hx324_3 := (HB.out.cell (World.block_lt_of_cell? w _ hx324_3)).trans hx324_3
   replace p324 := eq_true p324
   replace q324 := eq_true q324
   go_wp2_with (first | ((with_reducible refine gate_dst (N := 6) rfl ?_); (try (refine gate_guard (by rfl) ?_; dsimp only)); refine box_event ?hg (N := 6) ?hd (cs := #[.int .i64 0, .int .i64 0, .int .i64 0, .int .i64 0]) (t := 25) ?hr ?_; (case hd => rfl); (case hg => rfl); (case hr => first | (go_simp; done) | (go_simp; rfl)); intro Zbe hg w56 hbox hb; have n0_ := mA (blk_below (g := Za) (o := cQ25 t314 t315 t316 t317) Zb.out hb); have n1_ := mA (blk_below (g := Zn) (o := cQ25 t319 t320 t321 t322) Zp.out hb); have n2_ := mA (below_step (by repeat (first | (with_reducible first | exact HB.out | apply below_alloc | apply pw_below_drewN | apply below_drew1 | refine below_set ?_ Zd.out | refine below_set ?_ Zr.out) | exact HB.out)) hb); have n3_ := mA (hbox); have n4_ := mA ((by rw [hg]; exact (below_size (by repeat (first | (with_reducible first | exact HB.out | apply below_alloc | apply pw_below_drewN | apply below_drew1 | refine below_set ?_ Zd.out | refine below_set ?_ Zr.out) | exact HB.out))) : w.heap.size ≤ Zbe)); have n5_ := mA ((by rw [hg]; exact (below_size (by repeat (first | (with_reducible first | exact HB.out | apply below_alloc | apply pw_below_drewN | apply below_drew1 | refine below_set ?_ Zd.out | refine below_set ?_ Zr.out) | exact HB.out))) : w.heap.size ≤ Zbe)); have n6_ := mA ((by rw [hg]; exact Nat.ne_of_lt (blk_lt (g := Za) (o := cQ25 t314 t315 t316 t317) Zb.out) : Za ≠ Zbe)); have n7_ := mA ((by rw [hg]; exact Nat.ne_of_gt (blk_lt (g := Za) (o := cQ25 t314 t315 t316 t317) Zb.out) : Zbe ≠ Za)); have n8_ := mA ((by rw [hg]; exact Nat.ne_of_lt (blk_lt (g := Zn) (o := cQ25 t319 t320 t321 t322) Zp.out) : Zn ≠ Zbe)); have n9_ := mA ((by rw [hg]; exact Nat.ne_of_gt (blk_lt (g := Zn) (o := cQ25 t319 t320 t321 t322) Zp.out) : Zbe ≠ Zn)); clear Zb; clear Zp; clear HB; have Zb := n0_; have Zp := n1_; have HB := n2_; have Zbf := n3_; have Zbg := n4_; have Zbh := n5_; have Zbi := n6_; have Zbj := n7_; have Zbk := n8_; have Zbm := n9_; clear n0_ n1_ n2_ n3_ n4_ n5_ n6_ n7_ n8_ n9_; clear hb hbox hg; have Zbn := Zbj.out; have Zbp := Zbi.out; have Zbq := Zbm.out; have Zbr := Zbk.out; have Zbs : w56.cell? ⟨Zbe, 0, none⟩ = some (.int .i64 0) := (blk_cell Zbf.out 0).trans rfl; have Zbt : w56.cell? ⟨Zbe, 1, none⟩ = some (.int .i64 0) := (blk_cell Zbf.out 1).trans rfl; have Zbu : w56.cell? ⟨Zbe, 2, none⟩ = some (.int .i64 0) := (blk_cell Zbf.out 2).trans rfl; have Zbv : w56.cell? ⟨Zbe, 3, none⟩ = some (.int .i64 0) := (blk_cell Zbf.out 3).trans rfl; have Zbw := blk_frozen Zbf.out 0; have Zbx := blk_frozen Zbf.out 1; have Zby := blk_frozen Zbf.out 2; have Zbz := blk_frozen Zbf.out 3) | ((with_reducible refine gate_callee (f := 43) rfl ?_); refine goesL_ (some 31) rfl rfl Try.func43 (by kernel_rfl) rfl #[.agg #[.int .i64 ((rd_T25 l0 x26_2).f0), .int .i64 ((rd_T25 l0 x26_2).f1), .int .i64 ((rd_T25 l0 x26_2).f2), .int .i64 ((rd_T25 l0 x26_2).f3)]] rfl (by (try simp only [List.map_toArray, List.map_cons, List.map_nil]); first | done | rfl | (simp only [List.length_drop, List.length_take]; rfl)) ?_; (with_reducible refine (impl_IntervalOk.calls ((rd_T25 l0 x26_2).f0) ((rd_T25 l0 x26_2).f1) ((rd_T25 l0 x26_2).f2) ((rd_T25 l0 x26_2).f3) false _ A17.out).mono ?_); rintro e w60 ⟨rfl, hb⟩; refine ⟨_, rfl, ?_⟩; have n0_ := mA (blk_below (g := Za) (o := cQ25 t314 t315 t316 t317) (by (with_reducible repeat (first | refine blk_drewN ?_ _ | refine blk_drew ?_ | refine blk_alloc ?_ _)); refine far4 ?_ Zbi.out _ _ _ _; (with_reducible repeat (first | refine blk_drewN ?_ _ | refine blk_drew ?_ | refine blk_alloc ?_ _)); exact Zb.out) hb); have n1_ := mA (blk_below (g := Zn) (o := cQ25 t319 t320 t321 t322) (by (with_reducible repeat (first | refine blk_drewN ?_ _ | refine blk_drew ?_ | refine blk_alloc ?_ _)); refine far4 ?_ Zbk.out _ _ _ _; (with_reducible repeat (first | refine blk_drewN ?_ _ | refine blk_drew ?_ | refine blk_alloc ?_ _)); exact Zp.out) hb); have n2_ := mA (blk_below (g := Zbe) (o := cQ25 (((rd_T25 l0 x26_2).f0)) (((rd_T25 l0 x26_2).f1)) (((rd_T25 l0 x26_2).f2)) (((rd_T25 l0 x26_2).f3))) (by (with_reducible repeat (first | refine blk_drewN ?_ _ | refine blk_drew ?_ | refine blk_alloc ?_ _)); refine put4 (v0 := .int .i64 0) (v1 := .int .i64 0) (v2 := .int .i64 0) (v3 := .int .i64 0) ?_ _ _ _ _; (with_reducible repeat (first | refine blk_drewN ?_ _ | refine blk_drew ?_ | refine blk_alloc ?_ _)); exact Zbf.out) hb); have n3_ := mA (below_step (by repeat (first | (with_reducible first | exact HB.out | apply below_alloc | apply pw_below_drewN | apply below_drew1 | refine below_set ?_ Zd.out | refine below_set ?_ Zr.out | refine below_set ?_ Zbh.out) | exact HB.out)) hb); clear Zb; clear Zp; clear Zbf; clear HB; have Zb := n0_; have Zp := n1_; have Zbf := n2_; have HB := n3_; clear n0_ n1_ n2_ n3_; (try clear hb); (try clear hb2); (try clear hk); (try clear hi)))
   go_ret
   exact ⟨_, by first | rfl | (simp [errW_none, errW_some] <;> rfl) | (simp [*, errW_none, errW_some] <;> rfl), by first | exact Kd.R_nil _ _ _ _ _ | exact Kd.N_nil _ _ _ _ _ | exact Kd.V_nil _ _ _ _ _ | exact Kd.Q_nil _ _ _ _ _ | exact Kd.S_nil _ _ _ _ _, by repeat (first | (with_reducible first | exact HB.out | apply below_alloc | apply pw_below_drewN | apply below_drew1 | refine below_set ?_ Zd.out | refine below_set ?_ Zr.out | refine below_set ?_ Zbh.out) | exact HB.out)⟩
  subst c18
  rw [if_pos rfl] at H
  replace H := Option.bind_eq_some_iff.mp H
  obtain ⟨t327, A190, H⟩ := H
  replace H : (if t327 < 0 then (some ([] : List (S25))) else ((impl_CompareIntervals.f k2 ((rd_T25 l0 x26_2).f0) ((rd_T25 l0 x26_2).f1) ((rd_T25 l0 x26_2).f2) ((rd_T25 l0 x26_2).f3) t319 t320 t321 t322).bind fun t328 => (if t328 ≥ 0 then (some ([] : List (S25))) else (impl_StepsOf.l0 k2 l0 l0 (l0.length : Int) (wrap64 (x26_2 + 1)) t314 t315 t316 t317 t319 t320 t321 t322)))) = some r := H
  have A19 := mA A190
  clear A190
  by_cases c20 : t327 < 0
  case pos =>
   rw [if_pos c20] at H
   have c20b0 : decide (t327 < 0) = true := decide_eq_true c20
   clear c20
   obtain rfl := Option.some.inj H
   have p324 : 0 ≤ (x26_2 : Int) := of_decide_eq_true (by first | (with_reducible assumption) | assumption)
   have q324 : x26_2 < (l0.length : Int) := of_decide_eq_true (by first | (with_reducible assumption) | assumption)
   obtain ⟨ad324, e324, hx324_0, hx324_1, hx324_2, hx324_3⟩ := at_T25 HR0.out x26_2 p324 q324
   cases e324
   replace hx324_0 := (HB.out.cell (World.block_lt_of_cell? w _ hx324_0)).trans hx324_0
   replace hx324_1 := (HB.out.cell (World.block_lt_of_cell? w _ hx324_1)).trans hx324_1
   replace hx324_2 := (HB.out.cell (World.block_lt_of_cell? w _ hx324_2)).trans hx324_2
   replace hx324_3 := (HB.out.cell (World.block_lt_of_cell? w _ hx324_3)).trans hx324_3
   replace p324 := eq_true p324
   replace q324 := eq_true q324
   go_wp2_with (first | ((with_reducible refine gate_dst (N := 6) rfl ?_); (try (refine gate_guard (by rfl) ?_; dsimp only)); refine box_event ?hg (N := 6) ?hd (cs := #[.int .i64 0, .int .i64 0, .int .i64 0, .int .i64 0]) (t := 25) ?hr ?_; (case hd => rfl); (case hg => rfl); (case hr => first | (go_simp; done) | (go_simp; rfl)); intro Zbe hg w21 hbox hb; have n0_ := mA (blk_below (g := Za) (o := cQ25 t314 t315 t316 t317) Zb.out hb); have n1_ := mA (blk_below (g := Zn) (o := cQ25 t319 t320 t321 t322) Zp.out hb); have n2_ := mA (below_step (by repeat (first | (with_reducible first | exact HB.out | apply below_alloc | apply pw_below_drewN | apply below_drew1 | refine below_set ?_ Zd.out | refine below_set ?_ Zr.out) | exact HB.out)) hb); have n3_ := mA (hbox); have n4_ := mA ((by rw [hg]; exact (below_size (by repeat (first | (with_reducible first | exact HB.out | apply below_alloc | apply pw_below_drewN | apply below_drew1 | refine below_set ?_ Zd.out | refine below_set ?_ Zr.out) | exact HB.out))) : w.heap.size ≤ Zbe)); have n5_ := mA ((by rw [hg]; exact (below_size (by repeat (first | (with_reducible first | exact HB.out | apply below_alloc | apply pw_below_drewN | apply below_drew1 | refine below_set ?_ Zd.out | refine below_set ?_ Zr.out) | exact HB.out))) : w.heap.size ≤ Zbe)); have n6_ := mA ((by rw [hg]; exact Nat.ne_of_lt (blk_lt (g := Za) (o := cQ25 t314 t315 t316 t317) Zb.out) : Za ≠ Zbe)); have n7_ := mA ((by rw [hg]; exact Nat.ne_of_gt (blk_lt (g := Za) (o := cQ25 t314 t315 t316 t317) Zb.out) : Zbe ≠ Za)); have n8_ := mA ((by rw [hg]; exact Nat.ne_of_lt (blk_lt (g := Zn) (o := cQ25 t319 t320 t321 t322) Zp.out) : Zn ≠ Zbe)); have n9_ := mA ((by rw [hg]; exact Nat.ne_of_gt (blk_lt (g := Zn) (o := cQ25 t319 t320 t321 t322) Zp.out) : Zbe ≠ Zn)); clear Zb; clear Zp; clear HB; have Zb := n0_; have Zp := n1_; have HB := n2_; have Zbf := n3_; have Zbg := n4_; have Zbh := n5_; have Zbi := n6_; have Zbj := n7_; have Zbk := n8_; have Zbm := n9_; clear n0_ n1_ n2_ n3_ n4_ n5_ n6_ n7_ n8_ n9_; clear hb hbox hg; have Zca := Zbj.out; have Zcb := Zbi.out; have Zcc := Zbm.out; have Zcd := Zbk.out; have Zce : w21.cell? ⟨Zbe, 0, none⟩ = some (.int .i64 0) := (blk_cell Zbf.out 0).trans rfl; have Zcf : w21.cell? ⟨Zbe, 1, none⟩ = some (.int .i64 0) := (blk_cell Zbf.out 1).trans rfl; have Zcg : w21.cell? ⟨Zbe, 2, none⟩ = some (.int .i64 0) := (blk_cell Zbf.out 2).trans rfl; have Zch : w21.cell? ⟨Zbe, 3, none⟩ = some (.int .i64 0) := (blk_cell Zbf.out 3).trans rfl; have Zci := blk_frozen Zbf.out 0; have Zcj := blk_frozen Zbf.out 1; have Zck := blk_frozen Zbf.out 2; have Zcm := blk_frozen Zbf.out 3) | ((with_reducible refine gate_callee (f := 43) rfl ?_); refine goesL_ (some 31) rfl rfl Try.func43 (by kernel_rfl) rfl #[.agg #[.int .i64 ((rd_T25 l0 x26_2).f0), .int .i64 ((rd_T25 l0 x26_2).f1), .int .i64 ((rd_T25 l0 x26_2).f2), .int .i64 ((rd_T25 l0 x26_2).f3)]] rfl (by (try simp only [List.map_toArray, List.map_cons, List.map_nil]); first | done | rfl | (simp only [List.length_drop, List.length_take]; rfl)) ?_; (with_reducible refine (impl_IntervalOk.calls ((rd_T25 l0 x26_2).f0) ((rd_T25 l0 x26_2).f1) ((rd_T25 l0 x26_2).f2) ((rd_T25 l0 x26_2).f3) true _ A17.out).mono ?_); rintro e w25 ⟨rfl, hb⟩; refine ⟨_, rfl, ?_⟩; have n0_ := mA (blk_below (g := Za) (o := cQ25 t314 t315 t316 t317) (by (with_reducible repeat (first | refine blk_drewN ?_ _ | refine blk_drew ?_ | refine blk_alloc ?_ _)); refine far4 ?_ Zbi.out _ _ _ _; (with_reducible repeat (first | refine blk_drewN ?_ _ | refine blk_drew ?_ | refine blk_alloc ?_ _)); exact Zb.out) hb); have n1_ := mA (blk_below (g := Zn) (o := cQ25 t319 t320 t321 t322) (by (with_reducible repeat (first | refine blk_drewN ?_ _ | refine blk_drew ?_ | refine blk_alloc ?_ _)); refine far4 ?_ Zbk.out _ _ _ _; (with_reducible repeat (first | refine blk_drewN ?_ _ | refine blk_drew ?_ | refine blk_alloc ?_ _)); exact Zp.out) hb); have n2_ := mA (blk_below (g := Zbe) (o := cQ25 (((rd_T25 l0 x26_2).f0)) (((rd_T25 l0 x26_2).f1)) (((rd_T25 l0 x26_2).f2)) (((rd_T25 l0 x26_2).f3))) (by (with_reducible repeat (first | refine blk_drewN ?_ _ | refine blk_drew ?_ | refine blk_alloc ?_ _)); refine put4 (v0 := .int .i64 0) (v1 := .int .i64 0) (v2 := .int .i64 0) (v3 := .int .i64 0) ?_ _ _ _ _; (with_reducible repeat (first | refine blk_drewN ?_ _ | refine blk_drew ?_ | refine blk_alloc ?_ _)); exact Zbf.out) hb); have n3_ := mA (below_step (by repeat (first | (with_reducible first | exact HB.out | apply below_alloc | apply pw_below_drewN | apply below_drew1 | refine below_set ?_ Zd.out | refine below_set ?_ Zr.out | refine below_set ?_ Zbh.out) | exact HB.out)) hb); clear Zb; clear Zp; clear Zbf; clear HB; have Zb := n0_; have Zp := n1_; have Zbf := n2_; have HB := n3_; clear n0_ n1_ n2_ n3_; (try clear hb); (try clear hb2); (try clear hk); (try clear hi); have Zcn : w25.cell? ⟨Zbe, 0, none⟩ = some (.int .i64 ((rd_T25 l0 x26_2).f0)) := (blk_cell Zbf.out 0).trans rfl; have Zcp : w25.cell? ⟨Zbe, 1, none⟩ = some (.int .i64 ((rd_T25 l0 x26_2).f1)) := (blk_cell Zbf.out 1).trans rfl; have Zcq : w25.cell? ⟨Zbe, 2, none⟩ = some (.int .i64 ((rd_T25 l0 x26_2).f2)) := (blk_cell Zbf.out 2).trans rfl; have Zcr : w25.cell? ⟨Zbe, 3, none⟩ = some (.int .i64 ((rd_T25 l0 x26_2).f3)) := (blk_cell Zbf.out 3).trans rfl; have Zcs := blk_frozen Zbf.out 0; have Zct := blk_frozen Zbf.out 1; have Zcu := blk_frozen Zbf.out 2; have Zcv := blk_frozen Zbf.out 3; have Zcw := Zs.out; have Zcx := Zt.out; have Zcy : w25.cell? ⟨Za, 0, none⟩ = some (.int .i64 t314) := (blk_cell Zb.out 0).trans rfl; have Zcz : w25.cell? ⟨Za, 1, none⟩ = some (.int .i64 t315) := (blk_cell Zb.out 1).trans rfl; have Zda : w25.cell? ⟨Za, 2, none⟩ = some (.int .i64 t316) := (blk_cell Zb.out 2).trans rfl; have Zdb : w25.cell? ⟨Za, 3, none⟩ = some (.int .i64 t317) := (blk_cell Zb.out 3).trans rfl; have Zdc := blk_frozen Zb.out 0; have Zdd := blk_frozen Zb.out 1; have Zde := blk_frozen Zb.out 2; have Zdf := blk_frozen Zb.out 3) | (go_at_call 30; (with_reducible refine (impl_CompareIntervals.calls k2 ((rd_T25 l0 x26_2).f0) ((rd_T25 l0 x26_2).f1) ((rd_T25 l0 x26_2).f2) ((rd_T25 l0 x26_2).f3) t314 t315 t316 t317 t327 _ A19.out).mono ?_); rintro e w29 ⟨rfl, hb⟩; have n0_ := mA (blk_below (g := Za) (o := cQ25 t314 t315 t316 t317) Zb.out hb); have n1_ := mA (blk_below (g := Zn) (o := cQ25 t319 t320 t321 t322) Zp.out hb); have n2_ := mA (blk_below (g := Zbe) (o := cQ25 (((rd_T25 l0 x26_2).f0)) (((rd_T25 l0 x26_2).f1)) (((rd_T25 l0 x26_2).f2)) (((rd_T25 l0 x26_2).f3))) Zbf.out hb); have n3_ := mA (below_step (by repeat (first | (with_reducible first | exact HB.out | apply below_alloc | apply pw_below_drewN | apply below_drew1 | refine below_set ?_ Zd.out | refine below_set ?_ Zr.out | refine below_set ?_ Zbh.out) | exact HB.out)) hb); clear Zb; clear Zp; clear Zbf; clear HB; have Zb := n0_; have Zp := n1_; have Zbf := n2_; have HB := n3_; clear n0_ n1_ n2_ n3_; (try clear hb); (try clear hb2); (try clear hk); (try clear hi)))
   go_ret
   exact ⟨_, by first | rfl | (simp [errW_none, errW_some] <;> rfl) | (simp [*, errW_none, errW_some] <;> rfl), by first | exact Kd.R_nil _ _ _ _ _ | exact Kd.N_nil _ _ _ _ _ | exact Kd.V_nil _ _ _ _ _ | exact Kd.Q_nil _ _ _ _ _ | exact Kd.S_nil _ _ _ _ _, by repeat (first | (with_reducible first | exact HB.out | apply below_alloc | apply pw_below_drewN | apply below_drew1 | refine below_set ?_ Zd.out | refine below_set ?_ Zr.out | refine below_set ?_ Zbh.out) | exact HB.out)⟩
  rw [if_neg c20] at H
  have c20b0 : decide (t327 < 0) = false := decide_eq_false c20
  clear c20
  replace H := Option.bind_eq_some_iff.mp H
  obtain ⟨t328, A300, H⟩ := H
  replace H : (if t328 ≥ 0 then (some ([] : List (S25))) else (impl_StepsOf.l0 k2 l0 l0 (l0.length : Int) (wrap64 (x26_2 + 1)) t314 t315 t316 t317 t319 t320 t321 t322)) = some r := H
  have A30 := mA A300
  clear A300
  by_cases c31 : t328 ≥ 0
  case pos =>
   rw [if_pos c31] at H
   have c31b0 : decide (0 ≤ t328) = true := decide_eq_true c31
   clear c31
   obtain rfl := Option.some.inj H
   have p324 : 0 ≤ (x26_2 : Int) := of_decide_eq_true (by first | (with_reducible assumption) | assumption)
   have q324 : x26_2 < (l0.length : Int) := of_decide_eq_true (by first | (with_reducible assumption) | assumption)
   obtain ⟨ad324, e324, hx324_0, hx324_1, hx324_2, hx324_3⟩ := at_T25 HR0.out x26_2 p324 q324
   cases e324
   replace hx324_0 := (HB.out.cell (World.block_lt_of_cell? w _ hx324_0)).trans hx324_0
   replace hx324_1 := (HB.out.cell (World.block_lt_of_cell? w _ hx324_1)).trans hx324_1
   replace hx324_2 := (HB.out.cell (World.block_lt_of_cell? w _ hx324_2)).trans hx324_2
   replace hx324_3 := (HB.out.cell (World.block_lt_of_cell? w _ hx324_3)).trans hx324_3
   replace p324 := eq_true p324
   replace q324 := eq_true q324
   go_wp2_with (first | ((with_reducible refine gate_dst (N := 6) rfl ?_); (try (refine gate_guard (by rfl) ?_; dsimp only)); refine box_event ?hg (N := 6) ?hd (cs := #[.int .i64 0, .int .i64 0, .int .i64 0, .int .i64 0]) (t := 25) ?hr ?_; (case hd => rfl); (case hg => rfl); (case hr => first | (go_simp; done) | (go_simp; rfl)); intro Zbe hg w32 hbox hb; have n0_ := mA (blk_below (g := Za) (o := cQ25 t314 t315 t316 t317) Zb.out hb); have n1_ := mA (blk_below (g := Zn) (o := cQ25 t319 t320 t321 t322) Zp.out hb); have n2_ := mA (below_step (by repeat (first | (with_reducible first | exact HB.out | apply below_alloc | apply pw_below_drewN | apply below_drew1 | refine below_set ?_ Zd.out | refine below_set ?_ Zr.out) | exact HB.out)) hb); have n3_ := mA (hbox); have n4_ := mA ((by rw [hg]; exact (below_size (by repeat (first | (with_reducible first | exact HB.out | apply below_alloc | apply pw_below_drewN | apply below_drew1 | refine below_set ?_ Zd.out | refine below_set ?_ Zr.out) | exact HB.out))) : w.heap.size ≤ Zbe)); have n5_ := mA ((by rw [hg]; exact (below_size (by repeat (first | (with_reducible first | exact HB.out | apply below_alloc | apply pw_below_drewN | apply below_drew1 | refine below_set ?_ Zd.out | refine below_set ?_ Zr.out) | exact HB.out))) : w.heap.size ≤ Zbe)); have n6_ := mA ((by rw [hg]; exact Nat.ne_of_lt (blk_lt (g := Za) (o := cQ25 t314 t315 t316 t317) Zb.out) : Za ≠ Zbe)); have n7_ := mA ((by rw [hg]; exact Nat.ne_of_gt (blk_lt (g := Za) (o := cQ25 t314 t315 t316 t317) Zb.out) : Zbe ≠ Za)); have n8_ := mA ((by rw [hg]; exact Nat.ne_of_lt (blk_lt (g := Zn) (o := cQ25 t319 t320 t321 t322) Zp.out) : Zn ≠ Zbe)); have n9_ := mA ((by rw [hg]; exact Nat.ne_of_gt (blk_lt (g := Zn) (o := cQ25 t319 t320 t321 t322) Zp.out) : Zbe ≠ Zn)); clear Zb; clear Zp; clear HB; have Zb := n0_; have Zp := n1_; have HB := n2_; have Zbf := n3_; have Zbg := n4_; have Zbh := n5_; have Zbi := n6_; have Zbj := n7_; have Zbk := n8_; have Zbm := n9_; clear n0_ n1_ n2_ n3_ n4_ n5_ n6_ n7_ n8_ n9_; clear hb hbox hg; have Zdg := Zbj.out; have Zdh := Zbi.out; have Zdi := Zbm.out; have Zdj := Zbk.out; have Zdk : w32.cell? ⟨Zbe, 0, none⟩ = some (.int .i64 0) := (blk_cell Zbf.out 0).trans rfl; have Zdm : w32.cell? ⟨Zbe, 1, none⟩ = some (.int .i64 0) := (blk_cell Zbf.out 1).trans rfl; have Zdn : w32.cell? ⟨Zbe, 2, none⟩ = some (.int .i64 0) := (blk_cell Zbf.out 2).trans rfl; have Zdp : w32.cell? ⟨Zbe, 3, none⟩ = some (.int .i64 0) := (blk_cell Zbf.out 3).trans rfl; have Zdq := blk_frozen Zbf.out 0; have Zdr := blk_frozen Zbf.out 1; have Zds := blk_frozen Zbf.out 2; have Zdt := blk_frozen Zbf.out 3) | ((with_reducible refine gate_callee (f := 43) rfl ?_); refine goesL_ (some 31) rfl rfl Try.func43 (by kernel_rfl) rfl #[.agg #[.int .i64 ((rd_T25 l0 x26_2).f0), .int .i64 ((rd_T25 l0 x26_2).f1), .int .i64 ((rd_T25 l0 x26_2).f2), .int .i64 ((rd_T25 l0 x26_2).f3)]] rfl (by (try simp only [List.map_toArray, List.map_cons, List.map_nil]); first | done | rfl | (simp only [List.length_drop, List.length_take]; rfl)) ?_; (with_reducible refine (impl_IntervalOk.calls ((rd_T25 l0 x26_2).f0) ((rd_T25 l0 x26_2).f1) ((rd_T25 l0 x26_2).f2) ((rd_T25 l0 x26_2).f3) true _ A17.out).mono ?_); rintro e w36 ⟨rfl, hb⟩; refine ⟨_, rfl, ?_⟩; have n0_ := mA (blk_below (g := Za) (o := cQ25 t314 t315 t316 t317) (by (with_reducible repeat (first | refine blk_drewN ?_ _ | refine blk_drew ?_ | refine blk_alloc ?_ _)); refine far4 ?_ Zbi.out _ _ _ _; (with_reducible repeat (first | refine blk_drewN ?_ _ | refine blk_drew ?_ | refine blk_alloc ?_ _)); exact Zb.out) hb); have n1_ := mA (blk_below (g := Zn) (o := cQ25 t319 t320 t321 t322) (by (with_reducible repeat (first | refine blk_drewN ?_ _ | refine blk_drew ?_ | refine blk_alloc ?_ _)); refine far4 ?_ Zbk.out _ _ _ _; (with_reducible repeat (first | refine blk_drewN ?_ _ | refine blk_drew ?_ | refine blk_alloc ?_ _)); exact Zp.out) hb); have n2_ := mA (blk_below (g := Zbe) (o := cQ25 (((rd_T25 l0 x26_2).f0)) (((rd_T25 l0 x26_2).f1)) (((rd_T25 l0 x26_2).f2)) (((rd_T25 l0 x26_2).f3))) (by (with_reducible repeat (first | refine blk_drewN ?_ _ | refine blk_drew ?_ | refine blk_alloc ?_ _)); refine put4 (v0 := .int .i64 0) (v1 := .int .i64 0) (v2 := .int .i64 0) (v3 := .int .i64 0) ?_ _ _ _ _; (with_reducible repeat (first | refine blk_drewN ?_ _ | refine blk_drew ?_ | refine blk_alloc ?_ _)); exact Zbf.out) hb); have n3_ := mA (below_step (by repeat (first | (with_reducible first | exact HB.out | apply below_alloc | apply pw_below_drewN | apply below_drew1 | refine below_set ?_ Zd.out | refine below_set ?_ Zr.out | refine below_set ?_ Zbh.out) | exact HB.out)) hb); clear Zb; clear Zp; clear Zbf; clear HB; have Zb := n0_; have Zp := n1_; have Zbf := n2_; have HB := n3_; clear n0_ n1_ n2_ n3_; (try clear hb); (try clear hb2); (try clear hk); (try clear hi); have Zdu : w36.cell? ⟨Zbe, 0, none⟩ = some (.int .i64 ((rd_T25 l0 x26_2).f0)) := (blk_cell Zbf.out 0).trans rfl; have Zdv : w36.cell? ⟨Zbe, 1, none⟩ = some (.int .i64 ((rd_T25 l0 x26_2).f1)) := (blk_cell Zbf.out 1).trans rfl; have Zdw : w36.cell? ⟨Zbe, 2, none⟩ = some (.int .i64 ((rd_T25 l0 x26_2).f2)) := (blk_cell Zbf.out 2).trans rfl; have Zdx : w36.cell? ⟨Zbe, 3, none⟩ = some (.int .i64 ((rd_T25 l0 x26_2).f3)) := (blk_cell Zbf.out 3).trans rfl; have Zdy := blk_frozen Zbf.out 0; have Zdz := blk_frozen Zbf.out 1; have Zea := blk_frozen Zbf.out 2; have Zeb := blk_frozen Zbf.out 3; have Zec := Zs.out; have Zed := Zt.out; have Zee : w36.cell? ⟨Za, 0, none⟩ = some (.int .i64 t314) := (blk_cell Zb.out 0).trans rfl; have Zef : w36.cell? ⟨Za, 1, none⟩ = some (.int .i64 t315) := (blk_cell Zb.out 1).trans rfl; have Zeg : w36.cell? ⟨Za, 2, none⟩ = some (.int .i64 t316) := (blk_cell Zb.out 2).trans rfl; have Zeh : w36.cell? ⟨Za, 3, none⟩ = some (.int .i64 t317) := (blk_cell Zb.out 3).trans rfl; have Zei := blk_frozen Zb.out 0; have Zej := blk_frozen Zb.out 1; have Zek := blk_frozen Zb.out 2; have Zem := blk_frozen Zb.out 3) | (go_at_call 30; (with_reducible refine (impl_CompareIntervals.calls k2 ((rd_T25 l0 x26_2).f0) ((rd_T25 l0 x26_2).f1) ((rd_T25 l0 x26_2).f2) ((rd_T25 l0 x26_2).f3) t314 t315 t316 t317 t327 _ A19.out).mono ?_); rintro e w40 ⟨rfl, hb⟩; have n0_ := mA (blk_below (g := Za) (o := cQ25 t314 t315 t316 t317) Zb.out hb); have n1_ := mA (blk_below (g := Zn) (o := cQ25 t319 t320 t321 t322) Zp.out hb); have n2_ := mA (blk_below (g := Zbe) (o := cQ25 (((rd_T25 l0 x26_2).f0)) (((rd_T25 l0 x26_2).f1)) (((rd_T25 l0 x26_2).f2)) (((rd_T25 l0 x26_2).f3))) Zbf.out hb); have n3_ := mA (below_step (by repeat (first | (with_reducible first | exact HB.out | apply below_alloc | apply pw_below_drewN | apply below_drew1 | refine below_set ?_ Zd.out | refine below_set ?_ Zr.out | refine below_set ?_ Zbh.out) | exact HB.out)) hb); clear Zb; clear Zp; clear Zbf; clear HB; have Zb := n0_; have Zp := n1_; have Zbf := n2_; have HB := n3_; clear n0_ n1_ n2_ n3_; (try clear hb); (try clear hb2); (try clear hk); (try clear hi); have Zen : w40.cell? ⟨Zbe, 0, none⟩ = some (.int .i64 ((rd_T25 l0 x26_2).f0)) := (blk_cell Zbf.out 0).trans rfl; have Zep : w40.cell? ⟨Zbe, 1, none⟩ = some (.int .i64 ((rd_T25 l0 x26_2).f1)) := (blk_cell Zbf.out 1).trans rfl; have Zeq : w40.cell? ⟨Zbe, 2, none⟩ = some (.int .i64 ((rd_T25 l0 x26_2).f2)) := (blk_cell Zbf.out 2).trans rfl; have Zer : w40.cell? ⟨Zbe, 3, none⟩ = some (.int .i64 ((rd_T25 l0 x26_2).f3)) := (blk_cell Zbf.out 3).trans rfl; have Zes := blk_frozen Zbf.out 0; have Zet := blk_frozen Zbf.out 1; have Zeu := blk_frozen Zbf.out 2; have Zev := blk_frozen Zbf.out 3; have Zew : w40.cell? ⟨Zn, 0, none⟩ = some (.int .i64 t319) := (blk_cell Zp.out 0).trans rfl; have Zex : w40.cell? ⟨Zn, 1, none⟩ = some (.int .i64 t320) := (blk_cell Zp.out 1).trans rfl; have Zey : w40.cell? ⟨Zn, 2, none⟩ = some (.int .i64 t321) := (blk_cell Zp.out 2).trans rfl; have Zez : w40.cell? ⟨Zn, 3, none⟩ = some (.int .i64 t322) := (blk_cell Zp.out 3).trans rfl; have Zfa := blk_frozen Zp.out 0; have Zfb := blk_frozen Zp.out 1; have Zfc := blk_frozen Zp.out 2; have Zfd := blk_frozen Zp.out 3) | (go_at_call 30; (with_reducible refine (impl_CompareIntervals.calls k2 ((rd_T25 l0 x26_2).f0) ((rd_T25 l0 x26_2).f1) ((rd_T25 l0 x26_2).f2) ((rd_T25 l0 x26_2).f3) t319 t320 t321 t322 t328 _ A30.out).mono ?_); rintro e w43 ⟨rfl, hb⟩; have n0_ := mA (blk_below (g := Za) (o := cQ25 t314 t315 t316 t317) Zb.out hb); have n1_ := mA (blk_below (g := Zn) (o := cQ25 t319 t320 t321 t322) Zp.out hb); have n2_ := mA (blk_below (g := Zbe) (o := cQ25 (((rd_T25 l0 x26_2).f0)) (((rd_T25 l0 x26_2).f1)) (((rd_T25 l0 x26_2).f2)) (((rd_T25 l0 x26_2).f3))) Zbf.out hb); have n3_ := mA (below_step (by repeat (first | (with_reducible first | exact HB.out | apply below_alloc | apply pw_below_drewN | apply below_drew1 | refine below_set ?_ Zd.out | refine below_set ?_ Zr.out | refine below_set ?_ Zbh.out) | exact HB.out)) hb); clear Zb; clear Zp; clear Zbf; clear HB; have Zb := n0_; have Zp := n1_; have Zbf := n2_; have HB := n3_; clear n0_ n1_ n2_ n3_; (try clear hb); (try clear hb2); (try clear hk); (try clear hi)))
   go_ret
   exact ⟨_, by first | rfl | (simp [errW_none, errW_some] <;> rfl) | (simp [*, errW_none, errW_some] <;> rfl), by first | exact Kd.R_nil _ _ _ _ _ | exact Kd.N_nil _ _ _ _ _ | exact Kd.V_nil _ _ _ _ _ | exact Kd.Q_nil _ _ _ _ _ | exact Kd.S_nil _ _ _ _ _, by repeat (first | (with_reducible first | exact HB.out | apply below_alloc | apply pw_below_drewN | apply below_drew1 | refine below_set ?_ Zd.out | refine below_set ?_ Zr.out | refine below_set ?_ Zbh.out) | exact HB.out)⟩
  rw [if_neg c31] at H
  have c31b0 : decide (0 ≤ t328) = false := decide_eq_false c31
  clear c31
  have H' := mA H
  clear H
  have p324 : 0 ≤ (x26_2 : Int) := of_decide_eq_true (by first | (with_reducible assumption) | assumption)
  have q324 : x26_2 < (l0.length : Int) := of_decide_eq_true (by first | (with_reducible assumption) | assumption)
  obtain ⟨ad324, e324, hx324_0, hx324_1, hx324_2, hx324_3⟩ := at_T25 HR0.out x26_2 p324 q324
  cases e324
  replace hx324_0 := (HB.out.cell (World.block_lt_of_cell? w _ hx324_0)).trans hx324_0
  replace hx324_1 := (HB.out.cell (World.block_lt_of_cell? w _ hx324_1)).trans hx324_1
  replace hx324_2 := (HB.out.cell (World.block_lt_of_cell? w _ hx324_2)).trans hx324_2
  replace hx324_3 := (HB.out.cell (World.block_lt_of_cell? w _ hx324_3)).trans hx324_3
  replace p324 := eq_true p324
  replace q324 := eq_true q324
  go_wp2_with (first | ((with_reducible refine gate_dst (N := 6) rfl ?_); (try (refine gate_guard (by rfl) ?_; dsimp only)); refine box_event ?hg (N := 6) ?hd (cs := #[.int .i64 0, .int .i64 0, .int .i64 0, .int .i64 0]) (t := 25) ?hr ?_; (case hd => rfl); (case hg => rfl); (case hr => first | (go_simp; done) | (go_simp; rfl)); intro Zbe hg w44 hbox hb; have n0_ := mA (blk_below (g := Za) (o := cQ25 t314 t315 t316 t317) Zb.out hb); have n1_ := mA (blk_below (g := Zn) (o := cQ25 t319 t320 t321 t322) Zp.out hb); have n2_ := mA (below_step (by repeat (first | (with_reducible first | exact HB.out | apply below_alloc | apply pw_below_drewN | apply below_drew1 | refine below_set ?_ Zd.out | refine below_set ?_ Zr.out) | exact HB.out)) hb); have n3_ := mA (hbox); have n4_ := mA ((by rw [hg]; exact (below_size (by repeat (first | (with_reducible first | exact HB.out | apply below_alloc | apply pw_below_drewN | apply below_drew1 | refine below_set ?_ Zd.out | refine below_set ?_ Zr.out) | exact HB.out))) : w.heap.size ≤ Zbe)); have n5_ := mA ((by rw [hg]; exact (below_size (by repeat (first | (with_reducible first | exact HB.out | apply below_alloc | apply pw_below_drewN | apply below_drew1 | refine below_set ?_ Zd.out | refine below_set ?_ Zr.out) | exact HB.out))) : w.heap.size ≤ Zbe)); have n6_ := mA ((by rw [hg]; exact Nat.ne_of_lt (blk_lt (g := Za) (o := cQ25 t314 t315 t316 t317) Zb.out) : Za ≠ Zbe)); have n7_ := mA ((by rw [hg]; exact Nat.ne_of_gt (blk_lt (g := Za) (o := cQ25 t314 t315 t316 t317) Zb.out) : Zbe ≠ Za)); have n8_ := mA ((by rw [hg]; exact Nat.ne_of_lt (blk_lt (g := Zn) (o := cQ25 t319 t320 t321 t322) Zp.out) : Zn ≠ Zbe)); have n9_ := mA ((by rw [hg]; exact Nat.ne_of_gt (blk_lt (g := Zn) (o := cQ25 t319 t320 t321 t322) Zp.out) : Zbe ≠ Zn)); clear Zb; clear Zp; clear HB; have Zb := n0_; have Zp := n1_; have HB := n2_; have Zbf := n3_; have Zbg := n4_; have Zbh := n5_; have Zbi := n6_; have Zbj := n7_; have Zbk := n8_; have Zbm := n9_; clear n0_ n1_ n2_ n3_ n4_ n5_ n6_ n7_ n8_ n9_; clear hb hbox hg; have Zfe := Zbj.out; have Zff := Zbi.out; have Zfg := Zbm.out; have Zfh := Zbk.out; have Zfi : w44.cell? ⟨Zbe, 0, none⟩ = some (.int .i64 0) := (blk_cell Zbf.out 0).trans rfl; have Zfj : w44.cell? ⟨Zbe, 1, none⟩ = some (.int .i64 0) := (blk_cell Zbf.out 1).trans rfl; have Zfk : w44.cell? ⟨Zbe, 2, none⟩ = some (.int .i64 0) := (blk_cell Zbf.out 2).trans rfl; have Zfm : w44.cell? ⟨Zbe, 3, none⟩ = some (.int .i64 0) := (blk_cell Zbf.out 3).trans rfl; have Zfn := blk_frozen Zbf.out 0; have Zfp := blk_frozen Zbf.out 1; have Zfq := blk_frozen Zbf.out 2; have Zfr := blk_frozen Zbf.out 3) | ((with_reducible refine gate_callee (f := 43) rfl ?_); refine goesL_ (some 31) rfl rfl Try.func43 (by kernel_rfl) rfl #[.agg #[.int .i64 ((rd_T25 l0 x26_2).f0), .int .i64 ((rd_T25 l0 x26_2).f1), .int .i64 ((rd_T25 l0 x26_2).f2), .int .i64 ((rd_T25 l0 x26_2).f3)]] rfl (by (try simp only [List.map_toArray, List.map_cons, List.map_nil]); first | done | rfl | (simp only [List.length_drop, List.length_take]; rfl)) ?_; (with_reducible refine (impl_IntervalOk.calls ((rd_T25 l0 x26_2).f0) ((rd_T25 l0 x26_2).f1) ((rd_T25 l0 x26_2).f2) ((rd_T25 l0 x26_2).f3) true _ A17.out).mono ?_); rintro e w48 ⟨rfl, hb⟩; refine ⟨_, rfl, ?_⟩; have n0_ := mA (blk_below (g := Za) (o := cQ25 t314 t315 t316 t317) (by (with_reducible repeat (first | refine blk_drewN ?_ _ | refine blk_drew ?_ | refine blk_alloc ?_ _)); refine far4 ?_ Zbi.out _ _ _ _; (with_reducible repeat (first | refine blk_drewN ?_ _ | refine blk_drew ?_ | refine blk_alloc ?_ _)); exact Zb.out) hb); have n1_ := mA (blk_below (g := Zn) (o := cQ25 t319 t320 t321 t322) (by (with_reducible repeat (first | refine blk_drewN ?_ _ | refine blk_drew ?_ | refine blk_alloc ?_ _)); refine far4 ?_ Zbk.out _ _ _ _; (with_reducible repeat (first | refine blk_drewN ?_ _ | refine blk_drew ?_ | refine blk_alloc ?_ _)); exact Zp.out) hb); have n2_ := mA (blk_below (g := Zbe) (o := cQ25 (((rd_T25 l0 x26_2).f0)) (((rd_T25 l0 x26_2).f1)) (((rd_T25 l0 x26_2).f2)) (((rd_T25 l0 x26_2).f3))) (by (with_reducible repeat (first | refine blk_drewN ?_ _ | refine blk_drew ?_ | refine blk_alloc ?_ _)); refine put4 (v0 := .int .i64 0) (v1 := .int .i64 0) (v2 := .int .i64 0) (v3 := .int .i64 0) ?_ _ _ _ _; (with_reducible repeat (first | refine blk_drewN ?_ _ | refine blk_drew ?_ | refine blk_alloc ?_ _)); exact Zbf.out) hb); have n3_ := mA (below_step (by repeat (first | (with_reducible first | exact HB.out | apply below_alloc | apply pw_below_drewN | apply below_drew1 | refine below_set ?_ Zd.out | refine below_set ?_ Zr.out | refine below_set ?_ Zbh.out) | exact HB.out)) hb); clear Zb; clear Zp; clear Zbf; clear HB; have Zb := n0_; have Zp := n1_; have Zbf := n2_; have HB := n3_; clear n0_ n1_ n2_ n3_; (try clear hb); (try clear hb2); (try clear hk); (try clear hi); have Zfs : w48.cell? ⟨Zbe, 0, none⟩ = some (.int .i64 ((rd_T25 l0 x26_2).f0)) := (blk_cell Zbf.out 0).trans rfl; have Zft : w48.cell? ⟨Zbe, 1, none⟩ = some (.int .i64 ((rd_T25 l0 x26_2).f1)) := (blk_cell Zbf.out 1).trans rfl; have Zfu : w48.cell? ⟨Zbe, 2, none⟩ = some (.int .i64 ((rd_T25 l0 x26_2).f2)) := (blk_cell Zbf.out 2).trans rfl; have Zfv : w48.cell? ⟨Zbe, 3, none⟩ = some (.int .i64 ((rd_T25 l0 x26_2).f3)) := (blk_cell Zbf.out 3).trans rfl; have Zfw := blk_frozen Zbf.out 0; have Zfx := blk_frozen Zbf.out 1; have Zfy := blk_frozen Zbf.out 2; have Zfz := blk_frozen Zbf.out 3; have Zga := Zs.out; have Zgb := Zt.out; have Zgc : w48.cell? ⟨Za, 0, none⟩ = some (.int .i64 t314) := (blk_cell Zb.out 0).trans rfl; have Zgd : w48.cell? ⟨Za, 1, none⟩ = some (.int .i64 t315) := (blk_cell Zb.out 1).trans rfl; have Zge : w48.cell? ⟨Za, 2, none⟩ = some (.int .i64 t316) := (blk_cell Zb.out 2).trans rfl; have Zgf : w48.cell? ⟨Za, 3, none⟩ = some (.int .i64 t317) := (blk_cell Zb.out 3).trans rfl; have Zgg := blk_frozen Zb.out 0; have Zgh := blk_frozen Zb.out 1; have Zgi := blk_frozen Zb.out 2; have Zgj := blk_frozen Zb.out 3) | (go_at_call 30; (with_reducible refine (impl_CompareIntervals.calls k2 ((rd_T25 l0 x26_2).f0) ((rd_T25 l0 x26_2).f1) ((rd_T25 l0 x26_2).f2) ((rd_T25 l0 x26_2).f3) t314 t315 t316 t317 t327 _ A19.out).mono ?_); rintro e w52 ⟨rfl, hb⟩; have n0_ := mA (blk_below (g := Za) (o := cQ25 t314 t315 t316 t317) Zb.out hb); have n1_ := mA (blk_below (g := Zn) (o := cQ25 t319 t320 t321 t322) Zp.out hb); have n2_ := mA (blk_below (g := Zbe) (o := cQ25 (((rd_T25 l0 x26_2).f0)) (((rd_T25 l0 x26_2).f1)) (((rd_T25 l0 x26_2).f2)) (((rd_T25 l0 x26_2).f3))) Zbf.out hb); have n3_ := mA (below_step (by repeat (first | (with_reducible first | exact HB.out | apply below_alloc | apply pw_below_drewN | apply below_drew1 | refine below_set ?_ Zd.out | refine below_set ?_ Zr.out | refine below_set ?_ Zbh.out) | exact HB.out)) hb); clear Zb; clear Zp; clear Zbf; clear HB; have Zb := n0_; have Zp := n1_; have Zbf := n2_; have HB := n3_; clear n0_ n1_ n2_ n3_; (try clear hb); (try clear hb2); (try clear hk); (try clear hi); have Zgk : w52.cell? ⟨Zbe, 0, none⟩ = some (.int .i64 ((rd_T25 l0 x26_2).f0)) := (blk_cell Zbf.out 0).trans rfl; have Zgm : w52.cell? ⟨Zbe, 1, none⟩ = some (.int .i64 ((rd_T25 l0 x26_2).f1)) := (blk_cell Zbf.out 1).trans rfl; have Zgn : w52.cell? ⟨Zbe, 2, none⟩ = some (.int .i64 ((rd_T25 l0 x26_2).f2)) := (blk_cell Zbf.out 2).trans rfl; have Zgp : w52.cell? ⟨Zbe, 3, none⟩ = some (.int .i64 ((rd_T25 l0 x26_2).f3)) := (blk_cell Zbf.out 3).trans rfl; have Zgq := blk_frozen Zbf.out 0; have Zgr := blk_frozen Zbf.out 1; have Zgs := blk_frozen Zbf.out 2; have Zgt := blk_frozen Zbf.out 3; have Zgu : w52.cell? ⟨Zn, 0, none⟩ = some (.int .i64 t319) := (blk_cell Zp.out 0).trans rfl; have Zgv : w52.cell? ⟨Zn, 1, none⟩ = some (.int .i64 t320) := (blk_cell Zp.out 1).trans rfl; have Zgw : w52.cell? ⟨Zn, 2, none⟩ = some (.int .i64 t321) := (blk_cell Zp.out 2).trans rfl; have Zgx : w52.cell? ⟨Zn, 3, none⟩ = some (.int .i64 t322) := (blk_cell Zp.out 3).trans rfl; have Zgy := blk_frozen Zp.out 0; have Zgz := blk_frozen Zp.out 1; have Zha := blk_frozen Zp.out 2; have Zhb := blk_frozen Zp.out 3) | (go_at_call 30; (with_reducible refine (impl_CompareIntervals.calls k2 ((rd_T25 l0 x26_2).f0) ((rd_T25 l0 x26_2).f1) ((rd_T25 l0 x26_2).f2) ((rd_T25 l0 x26_2).f3) t319 t320 t321 t322 t328 _ A30.out).mono ?_); rintro e w55 ⟨rfl, hb⟩; have n0_ := mA (blk_below (g := Za) (o := cQ25 t314 t315 t316 t317) Zb.out hb); have n1_ := mA (blk_below (g := Zn) (o := cQ25 t319 t320 t321 t322) Zp.out hb); have n2_ := mA (blk_below (g := Zbe) (o := cQ25 (((rd_T25 l0 x26_2).f0)) (((rd_T25 l0 x26_2).f1)) (((rd_T25 l0 x26_2).f2)) (((rd_T25 l0 x26_2).f3))) Zbf.out hb); have n3_ := mA (below_step (by repeat (first | (with_reducible first | exact HB.out | apply below_alloc | apply pw_below_drewN | apply below_drew1 | refine below_set ?_ Zd.out | refine below_set ?_ Zr.out | refine below_set ?_ Zbh.out) | exact HB.out)) hb); clear Zb; clear Zp; clear Zbf; clear HB; have Zb := n0_; have Zp := n1_; have Zbf := n2_; have HB := n3_; clear n0_ n1_ n2_ n3_; (try clear hb); (try clear hb2); (try clear hk); (try clear hi)))
  go_roundg k2
  case measure => have := HJ3.out; have := HK2.out; omega
  case rel => exact ⟨(wrap64 (x26_2 + 1)), (by first | rfl | (simp; done) | (simp [*]; done)), H', ⟨by have := HJ3.out; have := HK2.out; omega⟩, ⟨by (with_reducible repeat (first | refine blk_drewN ?_ _ | refine blk_drew ?_ | refine blk_alloc ?_ _)); exact Zb.out⟩, ⟨by (with_reducible repeat (first | refine blk_drewN ?_ _ | refine blk_drew ?_ | refine blk_alloc ?_ _)); exact Zp.out⟩, ⟨by repeat (first | (with_reducible first | exact HB.out | apply below_alloc | apply pw_below_drewN | apply below_drew1 | refine below_set ?_ Zd.out | refine below_set ?_ Zr.out | refine below_set ?_ Zbh.out) | exact HB.out)⟩⟩
 rw [if_neg c14] at H
 have c14b0 : decide (x26_2 < (l0.length : Int)) = false := decide_eq_false c14
 clear c14
 by_cases c61 : 0 < (l0.length : Int)
 case neg =>
  rw [if_neg c61] at H
  exact absurd H (by simp)
 rw [if_pos c61] at H
 have c61b0 : decide (0 < (l0.length : Int)) = true := decide_eq_true c61
 have c61b1 : decide (0 < l0.length) = true := decide_eq_true (by omega)
 clear c61
 replace H := Option.bind_eq_some_iff.mp H
 obtain ⟨t330, A620, H⟩ := H
 replace H : (if t330 = true then (impl_StepsOf.l1 k2 l0 1 t319 t320 t321 t322) else (some ([] : List (S25)))) = some r := H
 have A62 := mA A620
 clear A620
 by_cases c63 : t330 = true
 case neg =>
  replace c63 := Bool.eq_false_iff.mpr c63
  subst c63
  have H1 : (some ([] : List (S25))) = some r := by rw [if_neg (show ¬ (false = true) by decide)] at H; exact H
  clear H
  have H := H1
  clear H1
  obtain rfl := Option.some.inj H
  try go_wp2
  have n0_ := mA (blk_drew Zb.out)
  have n1_ := mA (blk_drew Zp.out)
  have n2_ := mA (below_drew1 HB.out)
  clear Zb
  clear Zp
  clear HB
  have Zb := n0_
  have Zp := n1_
  have HB := n2_
  clear n0_ n1_ n2_
  have p329 : 0 ≤ (0 : Int) := (by omega)
  have q329 : 0 < (l0.length : Int) := of_decide_eq_true (by first | (with_reducible assumption) | assumption)
  obtain ⟨ad329, e329, hx329_0, hx329_1, hx329_2, hx329_3⟩ := at_T25 HR0.out 0 p329 q329
  have hw329_3 := hx329_3
  (try rw [show ((0 : Int)).toNat = 0 from rfl] at hw329_3)
  (try rw [show 0 * 4 = 0 from rfl] at hw329_3)
  (try rw [Addr.add_zero'] at hw329_3)
  have hw329_2 := hx329_2
  (try rw [show ((0 : Int)).toNat = 0 from rfl] at hw329_2)
  (try rw [show 0 * 4 = 0 from rfl] at hw329_2)
  (try rw [Addr.add_zero'] at hw329_2)
  have hw329_1 := hx329_1
  (try rw [show ((0 : Int)).toNat = 0 from rfl] at hw329_1)
  (try rw [show 0 * 4 = 0 from rfl] at hw329_1)
  (try rw [Addr.add_zero'] at hw329_1)
  have hw329_0 := hx329_0
  (try rw [show ((0 : Int)).toNat = 0 from rfl] at hw329_0)
  (try rw [show 0 * 4 = 0 from rfl] at hw329_0)
  (try rw [Addr.add_zero'] at hw329_0)
  cases e329
  have qi329 : (0 < l0.length) = True := eq_true (by omega)
  (try rw [show ((0 : Int)).toNat = 0 from rfl] at hx329_0)
  (try rw [show 0 * 4 = 0 from rfl] at hx329_0)
  (try rw [Addr.add_zero'] at hx329_0)
  (try rw [show ((0 : Int)).toNat = 0 from rfl] at hx329_1)
  (try rw [show 0 * 4 = 0 from rfl] at hx329_1)
  (try rw [Addr.add_zero'] at hx329_1)
  (try rw [show ((0 : Int)).toNat = 0 from rfl] at hx329_2)
  (try rw [show 0 * 4 = 0 from rfl] at hx329_2)
  (try rw [Addr.add_zero'] at hx329_2)
  (try rw [show ((0 : Int)).toNat = 0 from rfl] at hx329_3)
  (try rw [show 0 * 4 = 0 from rfl] at hx329_3)
  (try rw [Addr.add_zero'] at hx329_3)
  replace hx329_0 := (HB.out.cell (World.block_lt_of_cell? w _ hx329_0)).trans hx329_0
  replace hx329_1 := (HB.out.cell (World.block_lt_of_cell? w _ hx329_1)).trans hx329_1
  replace hx329_2 := (HB.out.cell (World.block_lt_of_cell? w _ hx329_2)).trans hx329_2
  replace hx329_3 := (HB.out.cell (World.block_lt_of_cell? w _ hx329_3)).trans hx329_3
  replace p329 := eq_true p329
  replace q329 := eq_true q329
  refine start_ (n := 6) (S := fun w' => w'.cell? ⟨Za, 0, none⟩ = some (.int .i64 t314) ∧ w'.cell? ⟨Za, 1, none⟩ = some (.int .i64 t315) ∧ w'.cell? ⟨Za, 2, none⟩ = some (.int .i64 t316) ∧ w'.cell? ⟨Za, 3, none⟩ = some (.int .i64 t317) ∧ w'.cell? ad329 = some (.int .i64 ((rd_T25 l0 0).f0)) ∧ w'.cell? ⟨ad329.block, ad329.off + 1, none⟩ = some (.int .i64 ((rd_T25 l0 0).f1)) ∧ w'.cell? ⟨ad329.block, ad329.off + 2, none⟩ = some (.int .i64 ((rd_T25 l0 0).f2)) ∧ w'.cell? ⟨ad329.block, ad329.off + 3, none⟩ = some (.int .i64 ((rd_T25 l0 0).f3))) (ds := []) #[false, false, false, false, false, false] (by kernel_rfl) rfl rfl ⟨(blk_cell Zb.out 0).trans rfl, (blk_cell Zb.out 1).trans rfl, (blk_cell Zb.out 2).trans rfl, (blk_cell Zb.out 3).trans rfl, ((HB.out.cell (World.block_lt_of_cell? w _ hw329_0)).trans hw329_0), ((HB.out.cell (World.block_lt_of_cell? w _ hw329_1)).trans hw329_1), ((HB.out.cell (World.block_lt_of_cell? w _ hw329_2)).trans hw329_2), ((HB.out.cell (World.block_lt_of_cell? w _ hw329_3)).trans hw329_3)⟩ (fun hHeld => ?_)
  generalize wr.drew = w169 at Zb Zp HB hx329_0 hx329_1 hx329_2 hx329_3 hHeld ⊢
  refine pure_ (i := 0) (N := some 46) (v := ?_) (a' := ?_) #[true, false, false, false, false, false] rfl rfl (by kernel_rfl) (fun _ _ _ h => h) (Or.inl ⟨by rfl, ?_⟩) ?_ ?_
  rotate_left
  · intro w'
    go_simp
    with_reducible rfl
  rotate_left
  · simp only [Act.put, List.setIfInBounds_toArray, List.set_cons_zero, List.set_cons_succ, i64_w, i32_w]
    rfl
  refine pure_ (i := 1) (N := some 47) (v := ?_) (a' := ?_) #[true, true, false, false, false, false] rfl rfl (by kernel_rfl) (fun _ _ _ h => h) (Or.inl ⟨by rfl, ?_⟩) ?_ ?_
  rotate_left
  · intro w'
    go_simp
    with_reducible rfl
  rotate_left
  · simp only [Act.put, List.setIfInBounds_toArray, List.set_cons_zero, List.set_cons_succ, i64_w, i32_w]
    rfl
  refine take_ (i := 2) (N := some 48) (v := ?_) (a' := ?_) #[true, true, true, false, false, false] rfl rfl (by kernel_rfl) (fun _ _ _ h => h) (Or.inl ⟨by rfl, ?_⟩) hHeld ?_ ?_
  rotate_left
  · rintro w' ⟨s0, s1, s2, s3, s4, s5, s6, s7⟩
    go_simp
    with_reducible rfl
  rotate_left
  · simp only [Act.put, List.setIfInBounds_toArray, List.set_cons_zero, List.set_cons_succ, i64_w, i32_w]
    rfl
  refine take_ (i := 3) (N := some 49) (v := ?_) (a' := ?_) #[true, true, true, true, false, false] rfl rfl (by kernel_rfl) (fun _ _ _ h => h) (Or.inl ⟨by rfl, ?_⟩) hHeld ?_ ?_
  rotate_left
  · rintro w' ⟨s0, s1, s2, s3, s4, s5, s6, s7⟩
    go_simp
    with_reducible rfl
  rotate_left
  · simp only [Act.put, List.setIfInBounds_toArray, List.set_cons_zero, List.set_cons_succ, i64_w, i32_w]
    rfl
  refine one_ (i := 4) (N := some 50) #[true, true, true, true, true, false] rfl rfl (by kernel_rfl) (by decide) (fun K hK => ?_)
  refine goes_ Try.func56 (by kernel_rfl) rfl #[.agg #[.int .i64 ((rd_T25 l0 0).f0), .int .i64 ((rd_T25 l0 0).f1), .int .i64 ((rd_T25 l0 0).f2), .int .i64 ((rd_T25 l0 0).f3)], .agg #[.int .i64 t314, .int .i64 t315, .int .i64 t316, .int .i64 t317]] (by rfl) rfl rfl (by (try simp only [List.map_toArray, List.map_cons, List.map_nil]); first | done | rfl | (simp only [List.length_drop, List.length_take]; rfl)) ?_
  with_reducible refine (impl_SameSize.calls k2 ((rd_T25 l0 0).f0) ((rd_T25 l0 0).f1) ((rd_T25 l0 0).f2) ((rd_T25 l0 0).f3) t314 t315 t316 t317 false _ A62.out).mono ?_
  rintro e w170 ⟨rfl, hb⟩
  refine ⟨_, rfl, ?_⟩
  have n0_ := mA (blk_below (g := Za) (o := cQ25 t314 t315 t316 t317) Zb.out hb)
  have n1_ := mA (blk_below (g := Zn) (o := cQ25 t319 t320 t321 t322) Zp.out hb)
  have n2_ := mA (below_step (by repeat (first | (with_reducible first | exact HB.out | apply below_alloc | apply pw_below_drewN | apply below_drew1 | refine below_set ?_ Zd.out | refine below_set ?_ Zr.out) | exact HB.out)) hb)
  clear Zb
  clear Zp
  clear HB
  have Zb := n0_
  have Zp := n1_
  have HB := n2_
  clear n0_ n1_ n2_
  (try clear hb)
  (try clear hb2)
  (try clear hk)
  (try clear hi)
  refine hK.out _ _ ⟨(blk_cell Zb.out 0).trans rfl, (blk_cell Zb.out 1).trans rfl, (blk_cell Zb.out 2).trans rfl, (blk_cell Zb.out 3).trans rfl, ((HB.out.cell (World.block_lt_of_cell? w _ hw329_0)).trans hw329_0), ((HB.out.cell (World.block_lt_of_cell? w _ hw329_1)).trans hw329_1), ((HB.out.cell (World.block_lt_of_cell? w _ hw329_2)).trans hw329_2), ((HB.out.cell (World.block_lt_of_cell? w _ hw329_3)).trans hw329_3)⟩ (fun hHeld => ?_)
  clear hK K
  refine norm_ (a' := ?_) ?_ ?_
  rotate_left
  · show Act.put _ (some 50) _ = _
    simp only [Act.put, List.setIfInBounds_toArray, List.set_cons_zero, List.set_cons_succ, i64_w, i32_w]
    rfl
  refine pure_ (i := 5) (N := some 51) (v := ?_) (a' := ?_) #[true, true, true, true, true, true] rfl rfl (by kernel_rfl) (fun _ _ _ h => h) (Or.inl ⟨by rfl, ?_⟩) ?_ ?_
  rotate_left
  · intro w'
    go_simp
    with_reducible rfl
  rotate_left
  · simp only [Act.put, List.setIfInBounds_toArray, List.set_cons_zero, List.set_cons_succ, i64_w, i32_w]
    rfl
  refine done_ (by kernel_rfl) ?_
  try go_wp2
  go_ret
  exact ⟨_, by first | rfl | (simp [errW_none, errW_some] <;> rfl) | (simp [*, errW_none, errW_some] <;> rfl), by first | exact Kd.R_nil _ _ _ _ _ | exact Kd.N_nil _ _ _ _ _ | exact Kd.V_nil _ _ _ _ _ | exact Kd.Q_nil _ _ _ _ _ | exact Kd.S_nil _ _ _ _ _, by repeat (first | (with_reducible first | exact HB.out | apply below_alloc | apply pw_below_drewN | apply below_drew1 | refine below_set ?_ Zd.out | refine below_set ?_ Zr.out) | exact HB.out)⟩
 subst c63
 have H1 : (impl_StepsOf.l1 k2 l0 1 t319 t320 t321 t322) = some r := by rw [if_pos rfl] at H; exact H
 clear H
 have H := H1
 clear H1
 have H' := mA H
 clear H
 try go_wp2
 have n0_ := mA (blk_drew Zb.out)
 have n1_ := mA (blk_drew Zp.out)
 have n2_ := mA (below_drew1 HB.out)
 clear Zb
 clear Zp
 clear HB
 have Zb := n0_
 have Zp := n1_
 have HB := n2_
 clear n0_ n1_ n2_
 have p329 : 0 ≤ (0 : Int) := (by omega)
 have q329 : 0 < (l0.length : Int) := of_decide_eq_true (by first | (with_reducible assumption) | assumption)
 obtain ⟨ad329, e329, hx329_0, hx329_1, hx329_2, hx329_3⟩ := at_T25 HR0.out 0 p329 q329
 have hw329_3 := hx329_3
 (try rw [show ((0 : Int)).toNat = 0 from rfl] at hw329_3)
 (try rw [show 0 * 4 = 0 from rfl] at hw329_3)
 (try rw [Addr.add_zero'] at hw329_3)
 have hw329_2 := hx329_2
 (try rw [show ((0 : Int)).toNat = 0 from rfl] at hw329_2)
 (try rw [show 0 * 4 = 0 from rfl] at hw329_2)
 (try rw [Addr.add_zero'] at hw329_2)
 have hw329_1 := hx329_1
 (try rw [show ((0 : Int)).toNat = 0 from rfl] at hw329_1)
 (try rw [show 0 * 4 = 0 from rfl] at hw329_1)
 (try rw [Addr.add_zero'] at hw329_1)
 have hw329_0 := hx329_0
 (try rw [show ((0 : Int)).toNat = 0 from rfl] at hw329_0)
 (try rw [show 0 * 4 = 0 from rfl] at hw329_0)
 (try rw [Addr.add_zero'] at hw329_0)
 cases e329
 have qi329 : (0 < l0.length) = True := eq_true (by omega)
 (try rw [show ((0 : Int)).toNat = 0 from rfl] at hx329_0)
 (try rw [show 0 * 4 = 0 from rfl] at hx329_0)
 (try rw [Addr.add_zero'] at hx329_0)
 (try rw [show ((0 : Int)).toNat = 0 from rfl] at hx329_1)
 (try rw [show 0 * 4 = 0 from rfl] at hx329_1)
 (try rw [Addr.add_zero'] at hx329_1)
 (try rw [show ((0 : Int)).toNat = 0 from rfl] at hx329_2)
 (try rw [show 0 * 4 = 0 from rfl] at hx329_2)
 (try rw [Addr.add_zero'] at hx329_2)
 (try rw [show ((0 : Int)).toNat = 0 from rfl] at hx329_3)
 (try rw [show 0 * 4 = 0 from rfl] at hx329_3)
 (try rw [Addr.add_zero'] at hx329_3)
 replace hx329_0 := (HB.out.cell (World.block_lt_of_cell? w _ hx329_0)).trans hx329_0
 replace hx329_1 := (HB.out.cell (World.block_lt_of_cell? w _ hx329_1)).trans hx329_1
 replace hx329_2 := (HB.out.cell (World.block_lt_of_cell? w _ hx329_2)).trans hx329_2
 replace hx329_3 := (HB.out.cell (World.block_lt_of_cell? w _ hx329_3)).trans hx329_3
 replace p329 := eq_true p329
 replace q329 := eq_true q329
 refine start_ (n := 6) (S := fun w' => w'.cell? ⟨Za, 0, none⟩ = some (.int .i64 t314) ∧ w'.cell? ⟨Za, 1, none⟩ = some (.int .i64 t315) ∧ w'.cell? ⟨Za, 2, none⟩ = some (.int .i64 t316) ∧ w'.cell? ⟨Za, 3, none⟩ = some (.int .i64 t317) ∧ w'.cell? ad329 = some (.int .i64 ((rd_T25 l0 0).f0)) ∧ w'.cell? ⟨ad329.block, ad329.off + 1, none⟩ = some (.int .i64 ((rd_T25 l0 0).f1)) ∧ w'.cell? ⟨ad329.block, ad329.off + 2, none⟩ = some (.int .i64 ((rd_T25 l0 0).f2)) ∧ w'.cell? ⟨ad329.block, ad329.off + 3, none⟩ = some (.int .i64 ((rd_T25 l0 0).f3))) (ds := []) #[false, false, false, false, false, false] (by kernel_rfl) rfl rfl ⟨(blk_cell Zb.out 0).trans rfl, (blk_cell Zb.out 1).trans rfl, (blk_cell Zb.out 2).trans rfl, (blk_cell Zb.out 3).trans rfl, ((HB.out.cell (World.block_lt_of_cell? w _ hw329_0)).trans hw329_0), ((HB.out.cell (World.block_lt_of_cell? w _ hw329_1)).trans hw329_1), ((HB.out.cell (World.block_lt_of_cell? w _ hw329_2)).trans hw329_2), ((HB.out.cell (World.block_lt_of_cell? w _ hw329_3)).trans hw329_3)⟩ (fun hHeld => ?_)
 generalize wr.drew = w64 at Zb Zp HB hx329_0 hx329_1 hx329_2 hx329_3 hHeld ⊢
 refine pure_ (i := 0) (N := some 46) (v := ?_) (a' := ?_) #[true, false, false, false, false, false] rfl rfl (by kernel_rfl) (fun _ _ _ h => h) (Or.inl ⟨by rfl, ?_⟩) ?_ ?_
 rotate_left
 · intro w'
   go_simp
   with_reducible rfl
 rotate_left
 · simp only [Act.put, List.setIfInBounds_toArray, List.set_cons_zero, List.set_cons_succ, i64_w, i32_w]
   rfl
 refine pure_ (i := 1) (N := some 47) (v := ?_) (a' := ?_) #[true, true, false, false, false, false] rfl rfl (by kernel_rfl) (fun _ _ _ h => h) (Or.inl ⟨by rfl, ?_⟩) ?_ ?_
 rotate_left
 · intro w'
   go_simp
   with_reducible rfl
 rotate_left
 · simp only [Act.put, List.setIfInBounds_toArray, List.set_cons_zero, List.set_cons_succ, i64_w, i32_w]
   rfl
 refine take_ (i := 2) (N := some 48) (v := ?_) (a' := ?_) #[true, true, true, false, false, false] rfl rfl (by kernel_rfl) (fun _ _ _ h => h) (Or.inl ⟨by rfl, ?_⟩) hHeld ?_ ?_
 rotate_left
 · rintro w' ⟨s0, s1, s2, s3, s4, s5, s6, s7⟩
   go_simp
   with_reducible rfl
 rotate_left
 · simp only [Act.put, List.setIfInBounds_toArray, List.set_cons_zero, List.set_cons_succ, i64_w, i32_w]
   rfl
 refine take_ (i := 3) (N := some 49) (v := ?_) (a' := ?_) #[true, true, true, true, false, false] rfl rfl (by kernel_rfl) (fun _ _ _ h => h) (Or.inl ⟨by rfl, ?_⟩) hHeld ?_ ?_
 rotate_left
 · rintro w' ⟨s0, s1, s2, s3, s4, s5, s6, s7⟩
   go_simp
   with_reducible rfl
 rotate_left
 · simp only [Act.put, List.setIfInBounds_toArray, List.set_cons_zero, List.set_cons_succ, i64_w, i32_w]
   rfl
 refine one_ (i := 4) (N := some 50) #[true, true, true, true, true, false] rfl rfl (by kernel_rfl) (by decide) (fun K hK => ?_)
 refine goes_ Try.func56 (by kernel_rfl) rfl #[.agg #[.int .i64 ((rd_T25 l0 0).f0), .int .i64 ((rd_T25 l0 0).f1), .int .i64 ((rd_T25 l0 0).f2), .int .i64 ((rd_T25 l0 0).f3)], .agg #[.int .i64 t314, .int .i64 t315, .int .i64 t316, .int .i64 t317]] (by rfl) rfl rfl (by (try simp only [List.map_toArray, List.map_cons, List.map_nil]); first | done | rfl | (simp only [List.length_drop, List.length_take]; rfl)) ?_
 with_reducible refine (impl_SameSize.calls k2 ((rd_T25 l0 0).f0) ((rd_T25 l0 0).f1) ((rd_T25 l0 0).f2) ((rd_T25 l0 0).f3) t314 t315 t316 t317 true _ A62.out).mono ?_
 rintro e w65 ⟨rfl, hb⟩
 refine ⟨_, rfl, ?_⟩
 have n0_ := mA (blk_below (g := Za) (o := cQ25 t314 t315 t316 t317) Zb.out hb)
 have n1_ := mA (blk_below (g := Zn) (o := cQ25 t319 t320 t321 t322) Zp.out hb)
 have n2_ := mA (below_step (by repeat (first | (with_reducible first | exact HB.out | apply below_alloc | apply pw_below_drewN | apply below_drew1 | refine below_set ?_ Zd.out | refine below_set ?_ Zr.out) | exact HB.out)) hb)
 clear Zb
 clear Zp
 clear HB
 have Zb := n0_
 have Zp := n1_
 have HB := n2_
 clear n0_ n1_ n2_
 (try clear hb)
 (try clear hb2)
 (try clear hk)
 (try clear hi)
 refine hK.out _ _ ⟨(blk_cell Zb.out 0).trans rfl, (blk_cell Zb.out 1).trans rfl, (blk_cell Zb.out 2).trans rfl, (blk_cell Zb.out 3).trans rfl, ((HB.out.cell (World.block_lt_of_cell? w _ hw329_0)).trans hw329_0), ((HB.out.cell (World.block_lt_of_cell? w _ hw329_1)).trans hw329_1), ((HB.out.cell (World.block_lt_of_cell? w _ hw329_2)).trans hw329_2), ((HB.out.cell (World.block_lt_of_cell? w _ hw329_3)).trans hw329_3)⟩ (fun hHeld => ?_)
 clear hK K
 refine norm_ (a' := ?_) ?_ ?_
 rotate_left
 · show Act.put _ (some 50) _ = _
   simp only [Act.put, List.setIfInBounds_toArray, List.set_cons_zero, List.set_cons_succ, i64_w, i32_w]
   rfl
 refine pure_ (i := 5) (N := some 51) (v := ?_) (a' := ?_) #[true, true, true, true, true, true] rfl rfl (by kernel_rfl) (fun _ _ _ h => h) (Or.inl ⟨by rfl, ?_⟩) ?_ ?_
 rotate_left
 · intro w'
   go_simp
   with_reducible rfl
 rotate_left
 · simp only [Act.put, List.setIfInBounds_toArray, List.set_cons_zero, List.set_cons_succ, i64_w, i32_w]
   rfl
 refine done_ (by kernel_rfl) ?_
 try go_wp2
 go_loopg [7] k2 (fun kq v7 w' => ∃ (x7_3 : Int), v7 = .int .i64 x7_3 ∧ Aside0 (impl_StepsOf.l1 kq l0 x7_3 t319 t320 t321 t322 = some r) ∧ Aside0 (kq ≤ k2) ∧ Aside0 (w'.heap[Za]? = some (.cells #[.int .i64 t314, .int .i64 t315, .int .i64 t316, .int .i64 t317] 25 (0, 0))) ∧ Aside0 (w'.heap[Zn]? = some (.cells #[.int .i64 t319, .int .i64 t320, .int .i64 t321, .int .i64 t322] 25 (0, 0))) ∧ Aside0 (Below w.heap.size w w'))
 case atStart => exact ⟨(1), (by first | rfl | (simp; done) | (simp [*]; done)), H', ⟨Nat.le_refl _⟩, ⟨by (with_reducible repeat (first | refine blk_drewN ?_ _ | refine blk_drew ?_ | refine blk_alloc ?_ _)); exact Zb.out⟩, ⟨by (with_reducible repeat (first | refine blk_drewN ?_ _ | refine blk_drew ?_ | refine blk_alloc ?_ _)); exact Zp.out⟩, ⟨by repeat (first | (with_reducible first | exact HB.out | apply below_alloc | apply pw_below_drewN | apply below_drew1 | refine below_set ?_ Zd.out | refine below_set ?_ Zr.out) | exact HB.out)⟩⟩
 clear H'
 try clear c1
 try clear c2
 try clear p2
 try clear c3
 try clear p3
 try clear q3
 try clear hx3
 try clear qi3
 try clear c4
 try clear c5
 try clear c6
 try clear p6
 try clear c10
 try clear c12
 try clear c12b0
 try clear c12b1
 try clear c12b2
 try clear c13
 try clear c14
 try clear c14b0
 try clear c15
 try clear c15b0
 try clear c16
 try clear c16b0
 try clear c18
 try clear c20
 try clear c20b0
 try clear c22
 try clear c23
 try clear c25
 try clear c27
 try clear c31
 try clear c31b0
 try clear p32
 try clear q32
 try clear hx32
 try clear qi32
 try clear c33
 try clear c34
 try clear c38
 try clear c39
 try clear c43
 try clear c45
 try clear c46
 try clear c50
 try clear c56
 try clear c57
 try clear c58
 try clear c61
 try clear c61b0
 try clear c61b1
 try clear c63
 try clear p64
 try clear Zw
 try clear Zx
 try clear Zy
 try clear Zz
 try clear Zce
 try clear Zcf
 try clear Zcg
 try clear Zch
 try clear Zcn
 try clear Zcp
 try clear Zcq
 try clear Zcr
 try clear Zcy
 try clear Zcz
 try clear Zda
 try clear Zdb
 try clear Zdk
 try clear Zdm
 try clear Zdn
 try clear Zdp
 try clear Zdu
 try clear Zdv
 try clear Zdw
 try clear Zdx
 try clear Zee
 try clear Zef
 try clear Zeg
 try clear Zeh
 try clear Zen
 try clear Zep
 try clear Zeq
 try clear Zer
 try clear Zew
 try clear Zex
 try clear Zey
 try clear Zez
 try clear Zfi
 try clear Zfj
 try clear Zfk
 try clear Zfm
 try clear Zfs
 try clear Zft
 try clear Zfu
 try clear Zfv
 try clear Zgc
 try clear Zgd
 try clear Zge
 try clear Zgf
 try clear Zgk
 try clear Zgm
 try clear Zgn
 try clear Zgp
 try clear Zgu
 try clear Zgv
 try clear Zgw
 try clear Zgx
 try clear Zbs
 try clear Zbt
 try clear Zbu
 try clear Zbv
 try clear Ze
 try clear Zf
 try clear Zg
 try clear Zh
 try clear Zba
 try clear Zbb
 try clear Zbc
 try clear Zbd
 try clear Zci
 try clear Zcj
 try clear Zck
 try clear Zcm
 try clear Zcs
 try clear Zct
 try clear Zcu
 try clear Zcv
 try clear Zdc
 try clear Zdd
 try clear Zde
 try clear Zdf
 try clear Zdq
 try clear Zdr
 try clear Zds
 try clear Zdt
 try clear Zdy
 try clear Zdz
 try clear Zea
 try clear Zeb
 try clear Zei
 try clear Zej
 try clear Zek
 try clear Zem
 try clear Zes
 try clear Zet
 try clear Zeu
 try clear Zev
 try clear Zfa
 try clear Zfb
 try clear Zfc
 try clear Zfd
 try clear Zfn
 try clear Zfp
 try clear Zfq
 try clear Zfr
 try clear Zfw
 try clear Zfx
 try clear Zfy
 try clear Zfz
 try clear Zgg
 try clear Zgh
 try clear Zgi
 try clear Zgj
 try clear Zgq
 try clear Zgr
 try clear Zgs
 try clear Zgt
 try clear Zgy
 try clear Zgz
 try clear Zha
 try clear Zhb
 try clear Zbw
 try clear Zbx
 try clear Zby
 try clear Zbz
 try clear Zi
 try clear Zj
 try clear Zk
 try clear Zm
 try clear hx324_0
 try clear hx324_1
 try clear hx324_2
 try clear hx324_3
 try clear hx329_0
 try clear hx329_1
 try clear hx329_2
 try clear hx329_3
 try clear p2
 try clear p324
 try clear p329
 try clear q324
 try clear q329
 obtain ⟨x7_3, rfl, HA, HK3, Zb, Zp, HB⟩ := hrel
 cases gk with
 | zero => exact absurd HA.out (by simp [impl_StepsOf.l1])
 | succ k3 =>
 have H := HA.out
 clear HA
 simp only [impl_StepsOf.l1] at H
 by_cases c66 : x7_3 < (l0.length : Int)
 case pos =>
  rw [if_pos c66] at H
  have c66b0 : decide (x7_3 < (l0.length : Int)) = true := decide_eq_true c66
  clear c66
  obtain ⟨ji67, hji67⟩ : ∃ j_ : Int, (wrap64 (x7_3 - 1)) = j_ := ⟨_, rfl⟩
  replace H : (if 0 ≤ (ji67) then (if (ji67) < (l0.length : Int) then (if 0 ≤ x7_3 then ((impl_CompareIntervals.f k3 ((rd_T25 l0 (ji67)).f0) ((rd_T25 l0 (ji67)).f1) ((rd_T25 l0 (ji67)).f2) ((rd_T25 l0 (ji67)).f3) ((rd_T25 l0 x7_3).f0) ((rd_T25 l0 x7_3).f1) ((rd_T25 l0 x7_3).f2) ((rd_T25 l0 x7_3).f3)).bind fun t333 => (if t333 ≥ 0 then (some ([] : List (S25))) else (impl_StepsOf.l1 k3 l0 (wrap64 (x7_3 + 1)) t319 t320 t321 t322))) else (none)) else (none)) else (none)) = some r := by first | (rw [hji67] at H; exact H) | (simp only [hji67] at H ⊢; exact H)
  have hji67w : (IntKind.i64.wrap (x7_3 - 1)) = ji67 := (i64_w _).trans hji67
  by_cases c68 : 0 ≤ (ji67)
  case neg =>
   rw [if_neg c68] at H
   exact absurd H (by simp)
  rw [if_pos c68] at H
  have c68b0 : decide (0 ≤ (ji67)) = true := decide_eq_true c68
  clear c68
  by_cases c69 : (ji67) < (l0.length : Int)
  case neg =>
   rw [if_neg c69] at H
   exact absurd H (by simp)
  rw [if_pos c69] at H
  have c69b0 : decide ((ji67) < (l0.length : Int)) = true := decide_eq_true c69
  clear c69
  by_cases c70 : 0 ≤ x7_3
  case neg =>
   rw [if_neg c70] at H
   exact absurd H (by simp)
  rw [if_pos c70] at H
  have c70b0 : decide (0 ≤ x7_3) = true := decide_eq_true c70
  clear c70
  replace H := Option.bind_eq_some_iff.mp H
  obtain ⟨t333, A710, H⟩ := H
  replace H : (if t333 ≥ 0 then (some ([] : List (S25))) else (impl_StepsOf.l1 k3 l0 (wrap64 (x7_3 + 1)) t319 t320 t321 t322)) = some r := H
  have A71 := mA A710
  clear A710
  by_cases c72 : t333 ≥ 0
  case pos =>
   rw [if_pos c72] at H
   have c72b0 : decide (0 ≤ t333) = true := decide_eq_true c72
   clear c72
   obtain rfl := Option.some.inj H
   try go_wp2
   have n0_ := mA (blk_drew Zb.out)
   have n1_ := mA (blk_drew Zp.out)
   have n2_ := mA (below_drew1 HB.out)
   clear Zb
   clear Zp
   clear HB
   have Zb := n0_
   have Zp := n1_
   have HB := n2_
   clear n0_ n1_ n2_
   have p331 : 0 ≤ ((ji67) : Int) := of_decide_eq_true (by first | (with_reducible assumption) | assumption)
   have q331 : (ji67) < (l0.length : Int) := of_decide_eq_true (by first | (with_reducible assumption) | assumption)
   obtain ⟨ad331, e331, hx331_0, hx331_1, hx331_2, hx331_3⟩ := at_T25 HR0.out (ji67) p331 q331
   have hw331_3 := hx331_3
   have hw331_2 := hx331_2
   have hw331_1 := hx331_1
   have hw331_0 := hx331_0
   obtain rfl : ad329 = ad331 := (by injection e331)
   replace hx331_0 := (HB.out.cell (World.block_lt_of_cell? w _ hx331_0)).trans hx331_0
   replace hx331_1 := (HB.out.cell (World.block_lt_of_cell? w _ hx331_1)).trans hx331_1
   replace hx331_2 := (HB.out.cell (World.block_lt_of_cell? w _ hx331_2)).trans hx331_2
   replace hx331_3 := (HB.out.cell (World.block_lt_of_cell? w _ hx331_3)).trans hx331_3
   replace p331 := eq_true p331
   replace q331 := eq_true q331
   have p332 : 0 ≤ (x7_3 : Int) := of_decide_eq_true (by first | (with_reducible assumption) | assumption)
   have q332 : x7_3 < (l0.length : Int) := of_decide_eq_true (by first | (with_reducible assumption) | assumption)
   obtain ⟨ad332, e332, hx332_0, hx332_1, hx332_2, hx332_3⟩ := at_T25 HR0.out x7_3 p332 q332
   have hw332_3 := hx332_3
   have hw332_2 := hx332_2
   have hw332_1 := hx332_1
   have hw332_0 := hx332_0
   obtain rfl : ad329 = ad332 := (by injection e332)
   replace hx332_0 := (HB.out.cell (World.block_lt_of_cell? w _ hx332_0)).trans hx332_0
   replace hx332_1 := (HB.out.cell (World.block_lt_of_cell? w _ hx332_1)).trans hx332_1
   replace hx332_2 := (HB.out.cell (World.block_lt_of_cell? w _ hx332_2)).trans hx332_2
   replace hx332_3 := (HB.out.cell (World.block_lt_of_cell? w _ hx332_3)).trans hx332_3
   replace p332 := eq_true p332
   replace q332 := eq_true q332
   refine start_ (n := 11) (S := fun w' => w'.cell? (ad329.add (((ji67)).toNat * 4)) = some (.int .i64 ((rd_T25 l0 (ji67)).f0)) ∧ w'.cell? ⟨(ad329.add (((ji67)).toNat * 4)).block, (ad329.add (((ji67)).toNat * 4)).off + 1, none⟩ = some (.int .i64 ((rd_T25 l0 (ji67)).f1)) ∧ w'.cell? ⟨(ad329.add (((ji67)).toNat * 4)).block, (ad329.add (((ji67)).toNat * 4)).off + 2, none⟩ = some (.int .i64 ((rd_T25 l0 (ji67)).f2)) ∧ w'.cell? ⟨(ad329.add (((ji67)).toNat * 4)).block, (ad329.add (((ji67)).toNat * 4)).off + 3, none⟩ = some (.int .i64 ((rd_T25 l0 (ji67)).f3)) ∧ w'.cell? (ad329.add ((x7_3).toNat * 4)) = some (.int .i64 ((rd_T25 l0 x7_3).f0)) ∧ w'.cell? ⟨(ad329.add ((x7_3).toNat * 4)).block, (ad329.add ((x7_3).toNat * 4)).off + 1, none⟩ = some (.int .i64 ((rd_T25 l0 x7_3).f1)) ∧ w'.cell? ⟨(ad329.add ((x7_3).toNat * 4)).block, (ad329.add ((x7_3).toNat * 4)).off + 2, none⟩ = some (.int .i64 ((rd_T25 l0 x7_3).f2)) ∧ w'.cell? ⟨(ad329.add ((x7_3).toNat * 4)).block, (ad329.add ((x7_3).toNat * 4)).off + 3, none⟩ = some (.int .i64 ((rd_T25 l0 x7_3).f3))) (ds := []) #[false, false, false, false, false, false, false, false, false, false, false] (by kernel_rfl) rfl rfl ⟨((HB.out.cell (World.block_lt_of_cell? w _ hw331_0)).trans hw331_0), ((HB.out.cell (World.block_lt_of_cell? w _ hw331_1)).trans hw331_1), ((HB.out.cell (World.block_lt_of_cell? w _ hw331_2)).trans hw331_2), ((HB.out.cell (World.block_lt_of_cell? w _ hw331_3)).trans hw331_3), ((HB.out.cell (World.block_lt_of_cell? w _ hw332_0)).trans hw332_0), ((HB.out.cell (World.block_lt_of_cell? w _ hw332_1)).trans hw332_1), ((HB.out.cell (World.block_lt_of_cell? w _ hw332_2)).trans hw332_2), ((HB.out.cell (World.block_lt_of_cell? w _ hw332_3)).trans hw332_3)⟩ (fun hHeld => ?_); refine with_tabW impl_StepsOf.tab16 impl_StepsOf.bits16 (fun HT_ HW_ => ?_)
   generalize wr.drew = w73 at Zb Zp HB hx331_0 hx331_1 hx331_2 hx331_3 hx332_0 hx332_1 hx332_2 hx332_3 hHeld ⊢
   refine pure_ (i := 0) (N := some 58) (v := ?_) (a' := ?_) #[true, false, false, false, false, false, false, false, false, false, false] rfl rfl (any_of HT_.out (by kernel_rfl)) (fun _ _ _ h => h) (Or.inl ⟨by rfl, ?_⟩) ?_ ?_
   rotate_left
   · intro w'
     go_simp
     with_reducible rfl
   rotate_left
   · simp only [Act.put, List.setIfInBounds_toArray, List.set_cons_zero, List.set_cons_succ, i64_w, i32_w]
     rfl
   refine pure_ (i := 1) (N := some 59) (v := ?_) (a' := ?_) #[true, true, false, false, false, false, false, false, false, false, false] rfl rfl (any_of HT_.out (by kernel_rfl)) (fun _ _ _ h => h) (Or.inl ⟨by rfl, ?_⟩) ?_ ?_
   rotate_left
   · intro w'
     go_simp
     with_reducible rfl
   rotate_left
   · simp only [Act.put, List.setIfInBounds_toArray, List.set_cons_zero, List.set_cons_succ, i64_w, i32_w]
     rfl
   refine pure_ (i := 2) (N := some 60) (v := ?_) (a' := ?_) #[true, true, true, false, false, false, false, false, false, false, false] rfl rfl (any_of HT_.out (by kernel_rfl)) (fun _ _ _ h => h) (Or.inl ⟨by rfl, ?_⟩) ?_ ?_
   rotate_left
   · intro w'
     go_simp
     with_reducible rfl
   rotate_left
   · simp only [Act.put, List.setIfInBounds_toArray, List.set_cons_zero, List.set_cons_succ, i64_w, i32_w]
     rfl
   refine pure_ (i := 3) (N := some 61) (v := ?_) (a' := ?_) #[true, true, true, true, false, false, false, false, false, false, false] rfl rfl (any_of HT_.out (by kernel_rfl)) (fun _ _ _ h => h) (Or.inl ⟨by rfl, ?_⟩) ?_ ?_
   rotate_left
   · intro w'
     go_simp
     with_reducible rfl
   rotate_left
   · simp only [Act.put, List.setIfInBounds_toArray, List.set_cons_zero, List.set_cons_succ, i64_w, i32_w]
     rfl
   refine pure_ (i := 5) (N := some 63) (v := ?_) (a' := ?_) #[true, true, true, true, false, true, false, false, false, false, false] rfl rfl (any_of HT_.out (by kernel_rfl)) (fun _ _ _ h => h) (Or.inl ⟨by rfl, ?_⟩) ?_ ?_
   rotate_left
   · intro w'
     go_simp
     with_reducible rfl
   rotate_left
   · simp only [Act.put, List.setIfInBounds_toArray, List.set_cons_zero, List.set_cons_succ, i64_w, i32_w]
     rfl
   refine pure_ (i := 6) (N := some 64) (v := ?_) (a' := ?_) #[true, true, true, true, false, true, true, false, false, false, false] rfl rfl (any_of HT_.out (by kernel_rfl)) (fun _ _ _ h => h) (Or.inl ⟨by rfl, ?_⟩) ?_ ?_
   rotate_left
   · intro w'
     go_simp
     with_reducible rfl
   rotate_left
   · simp only [Act.put, List.setIfInBounds_toArray, List.set_cons_zero, List.set_cons_succ, i64_w, i32_w]
     rfl
   refine pure_ (i := 7) (N := some 65) (v := ?_) (a' := ?_) #[true, true, true, true, false, true, true, true, false, false, false] rfl rfl (any_of HT_.out (by kernel_rfl)) (fun _ _ _ h => h) (Or.inl ⟨by rfl, ?_⟩) ?_ ?_
   rotate_left
   · intro w'
     go_simp
     with_reducible rfl
   rotate_left
   · simp only [Act.put, List.setIfInBounds_toArray, List.set_cons_zero, List.set_cons_succ, i64_w, i32_w]
     rfl
   refine take_ (i := 4) (N := some 62) (v := ?_) (a' := ?_) #[true, true, true, true, true, true, true, true, false, false, false] rfl rfl (take_ofW HT_.out HW_.out (by kernel_rfl)) (fun _ _ _ h => h) (Or.inl ⟨by rfl, ?_⟩) hHeld ?_ ?_
   rotate_left
   · rintro w' ⟨s0, s1, s2, s3, s4, s5, s6, s7⟩
     go_simp
     with_reducible rfl
   rotate_left
   · simp only [Act.put, List.setIfInBounds_toArray, List.set_cons_zero, List.set_cons_succ, i64_w, i32_w]
     rfl
   refine take_ (i := 8) (N := some 66) (v := ?_) (a' := ?_) #[true, true, true, true, true, true, true, true, true, false, false] rfl rfl (take_ofW HT_.out HW_.out (by kernel_rfl)) (fun _ _ _ h => h) (Or.inl ⟨by rfl, ?_⟩) hHeld ?_ ?_
   rotate_left
   · rintro w' ⟨s0, s1, s2, s3, s4, s5, s6, s7⟩
     go_simp
     with_reducible rfl
   rotate_left
   · simp only [Act.put, List.setIfInBounds_toArray, List.set_cons_zero, List.set_cons_succ, i64_w, i32_w]
     rfl
   refine one_ (i := 9) (N := some 67) #[true, true, true, true, true, true, true, true, true, true, false] rfl rfl (one_of HT_.out (by kernel_rfl)) (by decide) (fun K hK => ?_)
   refine goes_ Try.func30 (by kernel_rfl) rfl #[.agg #[.int .i64 ((rd_T25 l0 (ji67)).f0), .int .i64 ((rd_T25 l0 (ji67)).f1), .int .i64 ((rd_T25 l0 (ji67)).f2), .int .i64 ((rd_T25 l0 (ji67)).f3)], .agg #[.int .i64 ((rd_T25 l0 x7_3).f0), .int .i64 ((rd_T25 l0 x7_3).f1), .int .i64 ((rd_T25 l0 x7_3).f2), .int .i64 ((rd_T25 l0 x7_3).f3)]] (by rfl) rfl rfl (by (try simp only [List.map_toArray, List.map_cons, List.map_nil]); first | done | (simp only [hji67]; rfl) | rfl | (simp only [List.length_drop, List.length_take]; rfl)) ?_
   with_reducible refine (impl_CompareIntervals.calls k3 ((rd_T25 l0 (ji67)).f0) ((rd_T25 l0 (ji67)).f1) ((rd_T25 l0 (ji67)).f2) ((rd_T25 l0 (ji67)).f3) ((rd_T25 l0 x7_3).f0) ((rd_T25 l0 x7_3).f1) ((rd_T25 l0 x7_3).f2) ((rd_T25 l0 x7_3).f3) t333 _ A71.out).mono ?_
   rintro e w74 ⟨rfl, hb⟩
   refine ⟨_, rfl, ?_⟩
   have n0_ := mA (blk_below (g := Za) (o := cQ25 t314 t315 t316 t317) Zb.out hb)
   have n1_ := mA (blk_below (g := Zn) (o := cQ25 t319 t320 t321 t322) Zp.out hb)
   have n2_ := mA (below_step (by repeat (first | (with_reducible first | exact HB.out | apply below_alloc | apply pw_below_drewN | apply below_drew1 | refine below_set ?_ Zd.out | refine below_set ?_ Zr.out) | exact HB.out)) hb)
   clear Zb
   clear Zp
   clear HB
   have Zb := n0_
   have Zp := n1_
   have HB := n2_
   clear n0_ n1_ n2_
   (try clear hb)
   (try clear hb2)
   (try clear hk)
   (try clear hi)
   refine hK.out _ _ ⟨((HB.out.cell (World.block_lt_of_cell? w _ hw331_0)).trans hw331_0), ((HB.out.cell (World.block_lt_of_cell? w _ hw331_1)).trans hw331_1), ((HB.out.cell (World.block_lt_of_cell? w _ hw331_2)).trans hw331_2), ((HB.out.cell (World.block_lt_of_cell? w _ hw331_3)).trans hw331_3), ((HB.out.cell (World.block_lt_of_cell? w _ hw332_0)).trans hw332_0), ((HB.out.cell (World.block_lt_of_cell? w _ hw332_1)).trans hw332_1), ((HB.out.cell (World.block_lt_of_cell? w _ hw332_2)).trans hw332_2), ((HB.out.cell (World.block_lt_of_cell? w _ hw332_3)).trans hw332_3)⟩ (fun hHeld => ?_)
   clear hK K
   refine norm_ (a' := ?_) ?_ ?_
   rotate_left
   · show Act.put _ (some 67) _ = _
     simp only [Act.put, List.setIfInBounds_toArray, List.set_cons_zero, List.set_cons_succ, i64_w, i32_w]
     rfl
   refine pure_ (i := 10) (N := some 68) (v := ?_) (a' := ?_) #[true, true, true, true, true, true, true, true, true, true, true] rfl rfl (any_of HT_.out (by kernel_rfl)) (fun _ _ _ h => h) (Or.inl ⟨by rfl, ?_⟩) ?_ ?_
   rotate_left
   · intro w'
     go_simp
     with_reducible rfl
   rotate_left
   · simp only [Act.put, List.setIfInBounds_toArray, List.set_cons_zero, List.set_cons_succ, i64_w, i32_w]
     rfl
   refine done_ (done_of HT_.out (by kernel_rfl)) ?_
   try go_wp2
   go_ret
   exact ⟨_, by first | rfl | (simp [errW_none, errW_some] <;> rfl) | (simp only [← hji67]; first | rfl | (simp [errW_none, errW_some] <;> rfl)) | (simp [*, errW_none, errW_some] <;> rfl), by first | exact Kd.R_nil _ _ _ _ _ | exact Kd.N_nil _ _ _ _ _ | exact Kd.V_nil _ _ _ _ _ | exact Kd.Q_nil _ _ _ _ _ | exact Kd.S_nil _ _ _ _ _, by repeat (first | (with_reducible first | exact HB.out | apply below_alloc | apply pw_below_drewN | apply below_drew1 | refine below_set ?_ Zd.out | refine below_set ?_ Zr.out) | exact HB.out)⟩
  rw [if_neg c72] at H
  have c72b0 : decide (0 ≤ t333) = false := decide_eq_false c72
  clear c72
  have H' := mA H
  clear H
  try go_wp2
  have n0_ := mA (blk_drew Zb.out)
  have n1_ := mA (blk_drew Zp.out)
  have n2_ := mA (below_drew1 HB.out)
  clear Zb
  clear Zp
  clear HB
  have Zb := n0_
  have Zp := n1_
  have HB := n2_
  clear n0_ n1_ n2_
  have p331 : 0 ≤ ((ji67) : Int) := of_decide_eq_true (by first | (with_reducible assumption) | assumption)
  have q331 : (ji67) < (l0.length : Int) := of_decide_eq_true (by first | (with_reducible assumption) | assumption)
  obtain ⟨ad331, e331, hx331_0, hx331_1, hx331_2, hx331_3⟩ := at_T25 HR0.out (ji67) p331 q331
  have hw331_3 := hx331_3
  have hw331_2 := hx331_2
  have hw331_1 := hx331_1
  have hw331_0 := hx331_0
  obtain rfl : ad329 = ad331 := (by injection e331)
  replace hx331_0 := (HB.out.cell (World.block_lt_of_cell? w _ hx331_0)).trans hx331_0
  replace hx331_1 := (HB.out.cell (World.block_lt_of_cell? w _ hx331_1)).trans hx331_1
  replace hx331_2 := (HB.out.cell (World.block_lt_of_cell? w _ hx331_2)).trans hx331_2
  replace hx331_3 := (HB.out.cell (World.block_lt_of_cell? w _ hx331_3)).trans hx331_3
  replace p331 := eq_true p331
  replace q331 := eq_true q331
  have p332 : 0 ≤ (x7_3 : Int) := of_decide_eq_true (by first | (with_reducible assumption) | assumption)
  have q332 : x7_3 < (l0.length : Int) := of_decide_eq_true (by first | (with_reducible assumption) | assumption)
  obtain ⟨ad332, e332, hx332_0, hx332_1, hx332_2, hx332_3⟩ := at_T25 HR0.out x7_3 p332 q332
  have hw332_3 := hx332_3
  have hw332_2 := hx332_2
  have hw332_1 := hx332_1
  have hw332_0 := hx332_0
  obtain rfl : ad329 = ad332 := (by injection e332)
  replace hx332_0 := (HB.out.cell (World.block_lt_of_cell? w _ hx332_0)).trans hx332_0
  replace hx332_1 := (HB.out.cell (World.block_lt_of_cell? w _ hx332_1)).trans hx332_1
  replace hx332_2 := (HB.out.cell (World.block_lt_of_cell? w _ hx332_2)).trans hx332_2
  replace hx332_3 := (HB.out.cell (World.block_lt_of_cell? w _ hx332_3)).trans hx332_3
  replace p332 := eq_true p332
  replace q332 := eq_true q332
  refine start_ (n := 11) (S := fun w' => w'.cell? (ad329.add (((ji67)).toNat * 4)) = some (.int .i64 ((rd_T25 l0 (ji67)).f0)) ∧ w'.cell? ⟨(ad329.add (((ji67)).toNat * 4)).block, (ad329.add (((ji67)).toNat * 4)).off + 1, none⟩ = some (.int .i64 ((rd_T25 l0 (ji67)).f1)) ∧ w'.cell? ⟨(ad329.add (((ji67)).toNat * 4)).block, (ad329.add (((ji67)).toNat * 4)).off + 2, none⟩ = some (.int .i64 ((rd_T25 l0 (ji67)).f2)) ∧ w'.cell? ⟨(ad329.add (((ji67)).toNat * 4)).block, (ad329.add (((ji67)).toNat * 4)).off + 3, none⟩ = some (.int .i64 ((rd_T25 l0 (ji67)).f3)) ∧ w'.cell? (ad329.add ((x7_3).toNat * 4)) = some (.int .i64 ((rd_T25 l0 x7_3).f0)) ∧ w'.cell? ⟨(ad329.add ((x7_3).toNat * 4)).block, (ad329.add ((x7_3).toNat * 4)).off + 1, none⟩ = some (.int .i64 ((rd_T25 l0 x7_3).f1)) ∧ w'.cell? ⟨(ad329.add ((x7_3).toNat * 4)).block, (ad329.add ((x7_3).toNat * 4)).off + 2, none⟩ = some (.int .i64 ((rd_T25 l0 x7_3).f2)) ∧ w'.cell? ⟨(ad329.add ((x7_3).toNat * 4)).block, (ad329.add ((x7_3).toNat * 4)).off + 3, none⟩ = some (.int .i64 ((rd_T25 l0 x7_3).f3))) (ds := []) #[false, false, false, false, false, false, false, false, false, false, false] (by kernel_rfl) rfl rfl ⟨((HB.out.cell (World.block_lt_of_cell? w _ hw331_0)).trans hw331_0), ((HB.out.cell (World.block_lt_of_cell? w _ hw331_1)).trans hw331_1), ((HB.out.cell (World.block_lt_of_cell? w _ hw331_2)).trans hw331_2), ((HB.out.cell (World.block_lt_of_cell? w _ hw331_3)).trans hw331_3), ((HB.out.cell (World.block_lt_of_cell? w _ hw332_0)).trans hw332_0), ((HB.out.cell (World.block_lt_of_cell? w _ hw332_1)).trans hw332_1), ((HB.out.cell (World.block_lt_of_cell? w _ hw332_2)).trans hw332_2), ((HB.out.cell (World.block_lt_of_cell? w _ hw332_3)).trans hw332_3)⟩ (fun hHeld => ?_); refine with_tabW impl_StepsOf.tab16 impl_StepsOf.bits16 (fun HT_ HW_ => ?_)
  generalize wr.drew = w75 at Zb Zp HB hx331_0 hx331_1 hx331_2 hx331_3 hx332_0 hx332_1 hx332_2 hx332_3 hHeld ⊢
  refine pure_ (i := 0) (N := some 58) (v := ?_) (a' := ?_) #[true, false, false, false, false, false, false, false, false, false, false] rfl rfl (any_of HT_.out (by kernel_rfl)) (fun _ _ _ h => h) (Or.inl ⟨by rfl, ?_⟩) ?_ ?_
  rotate_left
  · intro w'
    go_simp
    with_reducible rfl
  rotate_left
  · simp only [Act.put, List.setIfInBounds_toArray, List.set_cons_zero, List.set_cons_succ, i64_w, i32_w]
    rfl
  refine pure_ (i := 1) (N := some 59) (v := ?_) (a' := ?_) #[true, true, false, false, false, false, false, false, false, false, false] rfl rfl (any_of HT_.out (by kernel_rfl)) (fun _ _ _ h => h) (Or.inl ⟨by rfl, ?_⟩) ?_ ?_
  rotate_left
  · intro w'
    go_simp
    with_reducible rfl
  rotate_left
  · simp only [Act.put, List.setIfInBounds_toArray, List.set_cons_zero, List.set_cons_succ, i64_w, i32_w]
    rfl
  refine pure_ (i := 2) (N := some 60) (v := ?_) (a' := ?_) #[true, true, true, false, false, false, false, false, false, false, false] rfl rfl (any_of HT_.out (by kernel_rfl)) (fun _ _ _ h => h) (Or.inl ⟨by rfl, ?_⟩) ?_ ?_
  rotate_left
  · intro w'
    go_simp
    with_reducible rfl
  rotate_left
  · simp only [Act.put, List.setIfInBounds_toArray, List.set_cons_zero, List.set_cons_succ, i64_w, i32_w]
    rfl
  refine pure_ (i := 3) (N := some 61) (v := ?_) (a' := ?_) #[true, true, true, true, false, false, false, false, false, false, false] rfl rfl (any_of HT_.out (by kernel_rfl)) (fun _ _ _ h => h) (Or.inl ⟨by rfl, ?_⟩) ?_ ?_
  rotate_left
  · intro w'
    go_simp
    with_reducible rfl
  rotate_left
  · simp only [Act.put, List.setIfInBounds_toArray, List.set_cons_zero, List.set_cons_succ, i64_w, i32_w]
    rfl
  refine pure_ (i := 5) (N := some 63) (v := ?_) (a' := ?_) #[true, true, true, true, false, true, false, false, false, false, false] rfl rfl (any_of HT_.out (by kernel_rfl)) (fun _ _ _ h => h) (Or.inl ⟨by rfl, ?_⟩) ?_ ?_
  rotate_left
  · intro w'
    go_simp
    with_reducible rfl
  rotate_left
  · simp only [Act.put, List.setIfInBounds_toArray, List.set_cons_zero, List.set_cons_succ, i64_w, i32_w]
    rfl
  refine pure_ (i := 6) (N := some 64) (v := ?_) (a' := ?_) #[true, true, true, true, false, true, true, false, false, false, false] rfl rfl (any_of HT_.out (by kernel_rfl)) (fun _ _ _ h => h) (Or.inl ⟨by rfl, ?_⟩) ?_ ?_
  rotate_left
  · intro w'
    go_simp
    with_reducible rfl
  rotate_left
  · simp only [Act.put, List.setIfInBounds_toArray, List.set_cons_zero, List.set_cons_succ, i64_w, i32_w]
    rfl
  refine pure_ (i := 7) (N := some 65) (v := ?_) (a' := ?_) #[true, true, true, true, false, true, true, true, false, false, false] rfl rfl (any_of HT_.out (by kernel_rfl)) (fun _ _ _ h => h) (Or.inl ⟨by rfl, ?_⟩) ?_ ?_
  rotate_left
  · intro w'
    go_simp
    with_reducible rfl
  rotate_left
  · simp only [Act.put, List.setIfInBounds_toArray, List.set_cons_zero, List.set_cons_succ, i64_w, i32_w]
    rfl
  refine take_ (i := 4) (N := some 62) (v := ?_) (a' := ?_) #[true, true, true, true, true, true, true, true, false, false, false] rfl rfl (take_ofW HT_.out HW_.out (by kernel_rfl)) (fun _ _ _ h => h) (Or.inl ⟨by rfl, ?_⟩) hHeld ?_ ?_
  rotate_left
  · rintro w' ⟨s0, s1, s2, s3, s4, s5, s6, s7⟩
    go_simp
    with_reducible rfl
  rotate_left
  · simp only [Act.put, List.setIfInBounds_toArray, List.set_cons_zero, List.set_cons_succ, i64_w, i32_w]
    rfl
  refine take_ (i := 8) (N := some 66) (v := ?_) (a' := ?_) #[true, true, true, true, true, true, true, true, true, false, false] rfl rfl (take_ofW HT_.out HW_.out (by kernel_rfl)) (fun _ _ _ h => h) (Or.inl ⟨by rfl, ?_⟩) hHeld ?_ ?_
  rotate_left
  · rintro w' ⟨s0, s1, s2, s3, s4, s5, s6, s7⟩
    go_simp
    with_reducible rfl
  rotate_left
  · simp only [Act.put, List.setIfInBounds_toArray, List.set_cons_zero, List.set_cons_succ, i64_w, i32_w]
    rfl
  refine one_ (i := 9) (N := some 67) #[true, true, true, true, true, true, true, true, true, true, false] rfl rfl (one_of HT_.out (by kernel_rfl)) (by decide) (fun K hK => ?_)
  refine goes_ Try.func30 (by kernel_rfl) rfl #[.agg #[.int .i64 ((rd_T25 l0 (ji67)).f0), .int .i64 ((rd_T25 l0 (ji67)).f1), .int .i64 ((rd_T25 l0 (ji67)).f2), .int .i64 ((rd_T25 l0 (ji67)).f3)], .agg #[.int .i64 ((rd_T25 l0 x7_3).f0), .int .i64 ((rd_T25 l0 x7_3).f1), .int .i64 ((rd_T25 l0 x7_3).f2), .int .i64 ((rd_T25 l0 x7_3).f3)]] (by rfl) rfl rfl (by (try simp only [List.map_toArray, List.map_cons, List.map_nil]); first | done | (simp only [hji67]; rfl) | rfl | (simp only [List.length_drop, List.length_take]; rfl)) ?_
  with_reducible refine (impl_CompareIntervals.calls k3 ((rd_T25 l0 (ji67)).f0) ((rd_T25 l0 (ji67)).f1) ((rd_T25 l0 (ji67)).f2) ((rd_T25 l0 (ji67)).f3) ((rd_T25 l0 x7_3).f0) ((rd_T25 l0 x7_3).f1) ((rd_T25 l0 x7_3).f2) ((rd_T25 l0 x7_3).f3) t333 _ A71.out).mono ?_
  rintro e w76 ⟨rfl, hb⟩
  refine ⟨_, rfl, ?_⟩
  have n0_ := mA (blk_below (g := Za) (o := cQ25 t314 t315 t316 t317) Zb.out hb)
  have n1_ := mA (blk_below (g := Zn) (o := cQ25 t319 t320 t321 t322) Zp.out hb)
  have n2_ := mA (below_step (by repeat (first | (with_reducible first | exact HB.out | apply below_alloc | apply pw_below_drewN | apply below_drew1 | refine below_set ?_ Zd.out | refine below_set ?_ Zr.out) | exact HB.out)) hb)
  clear Zb
  clear Zp
  clear HB
  have Zb := n0_
  have Zp := n1_
  have HB := n2_
  clear n0_ n1_ n2_
  (try clear hb)
  (try clear hb2)
  (try clear hk)
  (try clear hi)
  refine hK.out _ _ ⟨((HB.out.cell (World.block_lt_of_cell? w _ hw331_0)).trans hw331_0), ((HB.out.cell (World.block_lt_of_cell? w _ hw331_1)).trans hw331_1), ((HB.out.cell (World.block_lt_of_cell? w _ hw331_2)).trans hw331_2), ((HB.out.cell (World.block_lt_of_cell? w _ hw331_3)).trans hw331_3), ((HB.out.cell (World.block_lt_of_cell? w _ hw332_0)).trans hw332_0), ((HB.out.cell (World.block_lt_of_cell? w _ hw332_1)).trans hw332_1), ((HB.out.cell (World.block_lt_of_cell? w _ hw332_2)).trans hw332_2), ((HB.out.cell (World.block_lt_of_cell? w _ hw332_3)).trans hw332_3)⟩ (fun hHeld => ?_)
  clear hK K
  refine norm_ (a' := ?_) ?_ ?_
  rotate_left
  · show Act.put _ (some 67) _ = _
    simp only [Act.put, List.setIfInBounds_toArray, List.set_cons_zero, List.set_cons_succ, i64_w, i32_w]
    rfl
  refine pure_ (i := 10) (N := some 68) (v := ?_) (a' := ?_) #[true, true, true, true, true, true, true, true, true, true, true] rfl rfl (any_of HT_.out (by kernel_rfl)) (fun _ _ _ h => h) (Or.inl ⟨by rfl, ?_⟩) ?_ ?_
  rotate_left
  · intro w'
    go_simp
    with_reducible rfl
  rotate_left
  · simp only [Act.put, List.setIfInBounds_toArray, List.set_cons_zero, List.set_cons_succ, i64_w, i32_w]
    rfl
  refine done_ (done_of HT_.out (by kernel_rfl)) ?_
  try go_wp2
  go_roundg k3
  case measure => have := HJ3.out; have := HK2.out; have := HK3.out; omega
  case rel => exact ⟨(wrap64 (x7_3 + 1)), (by first | rfl | (simp; done) | (simp [*]; done)), H', ⟨by have := HJ3.out; have := HK2.out; have := HK3.out; omega⟩, ⟨by (with_reducible repeat (first | refine blk_drewN ?_ _ | refine blk_drew ?_ | refine blk_alloc ?_ _)); exact Zb.out⟩, ⟨by (with_reducible repeat (first | refine blk_drewN ?_ _ | refine blk_drew ?_ | refine blk_alloc ?_ _)); exact Zp.out⟩, ⟨by repeat (first | (with_reducible first | exact HB.out | apply below_alloc | apply pw_below_drewN | apply below_drew1 | refine below_set ?_ Zd.out | refine below_set ?_ Zr.out) | exact HB.out)⟩⟩
 rw [if_neg c66] at H
 have c66b0 : decide (x7_3 < (l0.length : Int)) = false := decide_eq_false c66
 clear c66
 obtain ⟨y334, hy334⟩ : ∃ y_ : List (S25), y_ = (([] : List (S25))) := ⟨_, rfl⟩
 replace H : (impl_StepsOf.l2 k3 l0 y334 l0 (l0.length : Int) 0 t319 t320 t321 t322) = some r := by first | (rw [hy334]; with_reducible exact H) | (have H2_ := (Option.bind_some _ _).symm.trans H; rw [hy334]; with_reducible exact H2_) | (have H2_ := (Option.bind_some _ _).symm.trans H; with_reducible exact H2_) | with_reducible exact H | (rw [hy334]; exact H) | exact H
 have Ny334 := mA hy334
 clear hy334
 have H' := mA H
 clear H
 go_wp2_with (first | ((with_reducible refine gate_dst (N := 69) rfl ?_); (try (refine gate_guard (by rfl) ?_; dsimp only)); refine Kd.R_lit k25 _ 25 ?hg (N := 69) ?hd (xs := ([] : List (S25))) (inner := []) (ok := fun _ => True) (okp := fun _ => True) ?hr ?hp (fun _ hk => hk) trivial (Below.refl _ _) (Nat.le_refl _) (by simp) ?_; (case hd => rfl); (case hg => rfl); (case hr => first | (go_simp; done) | (go_simp; rfl)); (case hp => exact (Reps.none _ _)); intro v335 w77 ho78 hb hg_ hnew_; clear hg_ hnew_; (first | rw [← Ny334.out] at ho78 | (simp only [Int.reduceToNat] at ho78; rw [← Ny334.out] at ho78)); have n0_ := mA (Kd.R_lower (Kd.R_newB (Kd.R_newB ho78 (g := Za) (o := cQ25 t314 t315 t316 t317) Zb.out) (g := Zn) (o := cQ25 t319 t320 t321 t322) Zp.out) (below_size (by repeat (first | (with_reducible first | exact HB.out | apply below_alloc | apply pw_below_drewN | apply below_drew1 | refine below_set ?_ Zd.out | refine below_set ?_ Zr.out) | exact HB.out)))); have n1_ := mA (blk_below (g := Za) (o := cQ25 t314 t315 t316 t317) Zb.out hb); have n2_ := mA (blk_below (g := Zn) (o := cQ25 t319 t320 t321 t322) Zp.out hb); have n3_ := mA (below_step (by repeat (first | (with_reducible first | exact HB.out | apply below_alloc | apply pw_below_drewN | apply below_drew1 | refine below_set ?_ Zd.out | refine below_set ?_ Zr.out) | exact HB.out)) hb); clear Zb; clear Zp; clear HB; have HO336 := n0_; have Zb := n1_; have Zp := n2_; have HB := n3_; clear n0_ n1_ n2_ n3_; clear hb ho78))
 go_loopg [8, 72] k3 (fun kq v8 v72 w' => ∃ (x8_4 : List (S25)) (x72_4 : Int), v72 = .int .i64 x72_4 ∧ Aside0 (impl_StepsOf.l2 kq l0 x8_4 l0 (l0.length : Int) x72_4 t319 t320 t321 t322 = some r) ∧ Aside0 (kq ≤ k3) ∧ Aside0 (Kd.R k25 25 w' w.heap.size (fun k_ => k_ ≠ Za ∧ k_ ≠ Zn) v8 x8_4) ∧ Aside0 (w'.heap[Za]? = some (.cells #[.int .i64 t314, .int .i64 t315, .int .i64 t316, .int .i64 t317] 25 (0, 0))) ∧ Aside0 (w'.heap[Zn]? = some (.cells #[.int .i64 t319, .int .i64 t320, .int .i64 t321, .int .i64 t322] 25 (0, 0))) ∧ Aside0 (Below w.heap.size w w'))
 case atStart => exact ⟨(y334), (0), (by first | rfl | (simp; done) | (simp [*]; done)), H', ⟨Nat.le_refl _⟩, ⟨by (with_reducible repeat (first | apply Kd.R_alloc | apply Kd.R_drewN | apply Kd.R_drew)); exact Kd.R_mono HO336.out (fun _ hk => ⟨hk.1.2, hk.2⟩)⟩, ⟨by (with_reducible repeat (first | refine blk_drewN ?_ _ | refine blk_drew ?_ | refine blk_alloc ?_ _)); exact Zb.out⟩, ⟨by (with_reducible repeat (first | refine blk_drewN ?_ _ | refine blk_drew ?_ | refine blk_alloc ?_ _)); exact Zp.out⟩, ⟨by repeat (first | (with_reducible first | exact HB.out | apply below_alloc | apply pw_below_drewN | apply below_drew1 | refine below_set ?_ Zd.out | refine below_set ?_ Zr.out) | exact HB.out)⟩⟩
 clear H'
 try clear c1
 try clear c2
 try clear p2
 try clear c3
 try clear p3
 try clear q3
 try clear hx3
 try clear qi3
 try clear c4
 try clear c5
 try clear c6
 try clear p6
 try clear c7
 try clear c10
 try clear c12
 try clear c12b0
 try clear c12b1
 try clear c12b2
 try clear c13
 try clear c14
 try clear c14b0
 try clear c15
 try clear c15b0
 try clear c16
 try clear c16b0
 try clear c18
 try clear c20
 try clear c20b0
 try clear c22
 try clear c23
 try clear c25
 try clear c27
 try clear c30
 try clear c31
 try clear c31b0
 try clear p32
 try clear q32
 try clear hx32
 try clear qi32
 try clear c33
 try clear p33
 try clear q33
 try clear hx33
 try clear c34
 try clear c38
 try clear c39
 try clear c43
 try clear c45
 try clear c46
 try clear c50
 try clear c56
 try clear c57
 try clear c58
 try clear c61
 try clear c61b0
 try clear c61b1
 try clear c63
 try clear p64
 try clear c66
 try clear c66b0
 try clear c68
 try clear c68b0
 try clear c69
 try clear c69b0
 try clear c70
 try clear c70b0
 try clear c72
 try clear c72b0
 try clear Zw
 try clear Zx
 try clear Zy
 try clear Zz
 try clear Zce
 try clear Zcf
 try clear Zcg
 try clear Zch
 try clear Zcn
 try clear Zcp
 try clear Zcq
 try clear Zcr
 try clear Zcy
 try clear Zcz
 try clear Zda
 try clear Zdb
 try clear Zdk
 try clear Zdm
 try clear Zdn
 try clear Zdp
 try clear Zdu
 try clear Zdv
 try clear Zdw
 try clear Zdx
 try clear Zee
 try clear Zef
 try clear Zeg
 try clear Zeh
 try clear Zen
 try clear Zep
 try clear Zeq
 try clear Zer
 try clear Zew
 try clear Zex
 try clear Zey
 try clear Zez
 try clear Zfi
 try clear Zfj
 try clear Zfk
 try clear Zfm
 try clear Zfs
 try clear Zft
 try clear Zfu
 try clear Zfv
 try clear Zgc
 try clear Zgd
 try clear Zge
 try clear Zgf
 try clear Zgk
 try clear Zgm
 try clear Zgn
 try clear Zgp
 try clear Zgu
 try clear Zgv
 try clear Zgw
 try clear Zgx
 try clear Zbs
 try clear Zbt
 try clear Zbu
 try clear Zbv
 try clear Ze
 try clear Zf
 try clear Zg
 try clear Zh
 try clear Zba
 try clear Zbb
 try clear Zbc
 try clear Zbd
 try clear Zci
 try clear Zcj
 try clear Zck
 try clear Zcm
 try clear Zcs
 try clear Zct
 try clear Zcu
 try clear Zcv
 try clear Zdc
 try clear Zdd
 try clear Zde
 try clear Zdf
 try clear Zdq
 try clear Zdr
 try clear Zds
 try clear Zdt
 try clear Zdy
 try clear Zdz
 try clear Zea
 try clear Zeb
 try clear Zei
 try clear Zej
 try clear Zek
 try clear Zem
 try clear Zes
 try clear Zet
 try clear Zeu
 try clear Zev
 try clear Zfa
 try clear Zfb
 try clear Zfc
 try clear Zfd
 try clear Zfn
 try clear Zfp
 try clear Zfq
 try clear Zfr
 try clear Zfw
 try clear Zfx
 try clear Zfy
 try clear Zfz
 try clear Zgg
 try clear Zgh
 try clear Zgi
 try clear Zgj
 try clear Zgq
 try clear Zgr
 try clear Zgs
 try clear Zgt
 try clear Zgy
 try clear Zgz
 try clear Zha
 try clear Zhb
 try clear Zbw
 try clear Zbx
 try clear Zby
 try clear Zbz
 try clear Zi
 try clear Zj
 try clear Zk
 try clear Zm
 try clear hx324_0
 try clear hx324_1
 try clear hx324_2
 try clear hx324_3
 try clear hx329_0
 try clear hx329_1
 try clear hx329_2
 try clear hx329_3
 try clear hx331_0
 try clear hx331_1
 try clear hx331_2
 try clear hx331_3
 try clear hx332_0
 try clear hx332_1
 try clear hx332_2
 try clear hx332_3
 try clear p2
 try clear p3
 try clear p32
 try clear p324
 try clear p329
 try clear p331
 try clear p332
 try clear p6
 try clear p64
 try clear q3
 try clear q32
 try clear q324
 try clear q329
 try clear q331
 try clear q332
 obtain ⟨x8_4, x72_4, rfl, HA, HK4, HO_8, Zb, Zp, HB⟩ := hrel
 cases gk with
 | zero => exact absurd HA.out (by simp [impl_StepsOf.l2])
 | succ k4 =>
 have H := HA.out
 clear HA
 simp only [impl_StepsOf.l2] at H
 by_cases c79 : x72_4 < (l0.length : Int)
 case neg =>
  rw [if_neg c79] at H
  have c79b0 : decide (x72_4 < (l0.length : Int)) = false := decide_eq_false c79
  clear c79
  obtain rfl := Option.some.inj H
  go_wp2
  go_ret
  exact ⟨_, by first | rfl | (simp [errW_none, errW_some] <;> rfl) | (simp [*, errW_none, errW_some] <;> rfl), by (with_reducible repeat (first | apply Kd.R_alloc | apply Kd.R_drewN | apply Kd.R_drew)); exact Kd.R_mono HO_8.out (fun _ hk => trivial), by repeat (first | (with_reducible first | exact HB.out | apply below_alloc | apply pw_below_drewN | apply below_drew1 | refine below_set ?_ Zd.out | refine below_set ?_ Zr.out) | exact HB.out)⟩
 rw [if_pos c79] at H
 have c79b0 : decide (x72_4 < (l0.length : Int)) = true := decide_eq_true c79
 clear c79
 by_cases c80 : 0 ≤ x72_4
 case neg =>
  rw [if_neg c80] at H
  exact absurd H (by simp)
 rw [if_pos c80] at H
 have c80b0 : decide (0 ≤ x72_4) = true := decide_eq_true c80
 clear c80
 by_cases c81 : x72_4 < (l0.length : Int)
 case neg =>
  rw [if_neg c81] at H
  exact absurd H (by simp)
 rw [if_pos c81] at H
 have c81b0 : decide (x72_4 < (l0.length : Int)) = true := decide_eq_true c81
 clear c81
 by_cases c82 : (wrap64 (x72_4 + 1)) < (l0.length : Int)
 case neg =>
  rw [if_neg c82] at H
  have c82b0 : decide ((wrap64 (x72_4 + 1)) < (l0.length : Int)) = false := decide_eq_false c82
  clear c82
  replace H := Option.bind_eq_some_iff.mp H
  obtain ⟨⟨t350, t351, t352, t353, t354⟩, A1270, H⟩ := H
  replace H : (if t354 = true then (if x8_4.length < 4398046511104 then (impl_StepsOf.l2 k4 l0 (x8_4 ++ [(⟨t350, t351, t352, t353⟩ : S25)]) l0 (l0.length : Int) (wrap64 (x72_4 + 1)) t319 t320 t321 t322) else (none)) else (some ([] : List (S25)))) = some r := H
  have A127 := mA A1270
  clear A1270
  by_cases c128 : t354 = true
  case neg =>
   replace c128 := Bool.eq_false_iff.mpr c128
   subst c128
   have H1 : (some ([] : List (S25))) = some r := by rw [if_neg (show ¬ (false = true) by decide)] at H; exact H
   clear H
   have H := H1
   clear H1
   obtain rfl := Option.some.inj H
   have p337 : 0 ≤ (x72_4 : Int) := of_decide_eq_true (by first | (with_reducible assumption) | assumption)
   have q337 : x72_4 < (l0.length : Int) := of_decide_eq_true (by first | (with_reducible assumption) | assumption)
   obtain ⟨ad337, e337, hx337_0, hx337_1, hx337_2, hx337_3⟩ := at_T25 HR0.out x72_4 p337 q337
   obtain rfl : ad329 = ad337 := (by injection e337)
   replace hx337_0 := (HB.out.cell (World.block_lt_of_cell? w _ hx337_0)).trans hx337_0
   replace hx337_1 := (HB.out.cell (World.block_lt_of_cell? w _ hx337_1)).trans hx337_1
   replace hx337_2 := (HB.out.cell (World.block_lt_of_cell? w _ hx337_2)).trans hx337_2
   replace hx337_3 := (HB.out.cell (World.block_lt_of_cell? w _ hx337_3)).trans hx337_3
   replace p337 := eq_true p337
   replace q337 := eq_true q337
   go_wp2_with (first | ((with_reducible refine gate_dst (N := 10) rfl ?_); (try (refine gate_guard (by rfl) ?_; dsimp only)); refine box_event ?hg (N := 10) ?hd (cs := #[.int .i64 0, .int .i64 0, .int .i64 0, .int .i64 0]) (t := 25) ?hr ?_; (case hd => rfl); (case hg => rfl); (case hr => first | (go_simp; done) | (go_simp; rfl)); intro Zhc hg w150 hbox hb; have n0_ := mA (Kd.R_below (Kd.R_elderB (by (with_reducible repeat (first | apply Kd.R_alloc | apply Kd.R_drewN | apply Kd.R_drew)); exact HO_8.out) Zhc (Nat.le_of_eq hg.symm)) hb); have n1_ := mA (blk_below (g := Za) (o := cQ25 t314 t315 t316 t317) Zb.out hb); have n2_ := mA (blk_below (g := Zn) (o := cQ25 t319 t320 t321 t322) Zp.out hb); have n3_ := mA (below_step (by repeat (first | (with_reducible first | exact HB.out | apply below_alloc | apply pw_below_drewN | apply below_drew1 | refine below_set ?_ Zd.out | refine below_set ?_ Zr.out) | exact HB.out)) hb); have n4_ := mA (hbox); have n5_ := mA ((by rw [hg]; exact (below_size (by repeat (first | (with_reducible first | exact HB.out | apply below_alloc | apply pw_below_drewN | apply below_drew1 | refine below_set ?_ Zd.out | refine below_set ?_ Zr.out) | exact HB.out))) : w.heap.size ≤ Zhc)); have n6_ := mA ((by rw [hg]; exact (below_size (by repeat (first | (with_reducible first | exact HB.out | apply below_alloc | apply pw_below_drewN | apply below_drew1 | refine below_set ?_ Zd.out | refine below_set ?_ Zr.out) | exact HB.out))) : w.heap.size ≤ Zhc)); have n7_ := mA ((by rw [hg]; exact Nat.ne_of_lt (blk_lt (g := Za) (o := cQ25 t314 t315 t316 t317) Zb.out) : Za ≠ Zhc)); have n8_ := mA ((by rw [hg]; exact Nat.ne_of_gt (blk_lt (g := Za) (o := cQ25 t314 t315 t316 t317) Zb.out) : Zhc ≠ Za)); have n9_ := mA ((by rw [hg]; exact Nat.ne_of_lt (blk_lt (g := Zn) (o := cQ25 t319 t320 t321 t322) Zp.out) : Zn ≠ Zhc)); have n10_ := mA ((by rw [hg]; exact Nat.ne_of_gt (blk_lt (g := Zn) (o := cQ25 t319 t320 t321 t322) Zp.out) : Zhc ≠ Zn)); clear HO_8; clear Zb; clear Zp; clear HB; have HO_8 := n0_; have Zb := n1_; have Zp := n2_; have HB := n3_; have Zhd := n4_; have Zhe := n5_; have Zhf := n6_; have Zhg := n7_; have Zhh := n8_; have Zhi := n9_; have Zhj := n10_; clear n0_ n1_ n2_ n3_ n4_ n5_ n6_ n7_ n8_ n9_ n10_; clear hb hbox hg; have Zhk := Zhh.out; have Zhm := Zhg.out; have Zhn := Zhj.out; have Zhp := Zhi.out; have Zhq : w150.cell? ⟨Zhc, 0, none⟩ = some (.int .i64 0) := (blk_cell Zhd.out 0).trans rfl; have Zhr : w150.cell? ⟨Zhc, 1, none⟩ = some (.int .i64 0) := (blk_cell Zhd.out 1).trans rfl; have Zhs : w150.cell? ⟨Zhc, 2, none⟩ = some (.int .i64 0) := (blk_cell Zhd.out 2).trans rfl; have Zht : w150.cell? ⟨Zhc, 3, none⟩ = some (.int .i64 0) := (blk_cell Zhd.out 3).trans rfl; have Zhu := blk_frozen Zhd.out 0; have Zhv := blk_frozen Zhd.out 1; have Zhw := blk_frozen Zhd.out 2; have Zhx := blk_frozen Zhd.out 3; have Zhy := Zt.out; have Zhz := Zs.out; have Zia : w150.cell? ⟨Zn, 0, none⟩ = some (.int .i64 t319) := (blk_cell Zp.out 0).trans rfl; have Zib : w150.cell? ⟨Zn, 1, none⟩ = some (.int .i64 t320) := (blk_cell Zp.out 1).trans rfl; have Zic : w150.cell? ⟨Zn, 2, none⟩ = some (.int .i64 t321) := (blk_cell Zp.out 2).trans rfl; have Zid : w150.cell? ⟨Zn, 3, none⟩ = some (.int .i64 t322) := (blk_cell Zp.out 3).trans rfl; have Zie := blk_frozen Zp.out 0; have Zif := blk_frozen Zp.out 1; have Zig := blk_frozen Zp.out 2; have Zih := blk_frozen Zp.out 3) | ((with_reducible refine gate_dst (N := 11) rfl ?_); (try (refine gate_guard (by rfl) ?_; dsimp only)); refine box_event ?hg (N := 11) ?hd (cs := #[.int .i64 0, .int .i64 0, .int .i64 0, .int .i64 0]) (t := 25) ?hr ?_; (case hd => rfl); (case hg => rfl); (case hr => first | (go_simp; done) | (go_simp; rfl)); intro Zii hg w156 hbox hb; have n0_ := mA (Kd.R_below (Kd.R_elderB (by (with_reducible repeat (first | apply Kd.R_alloc | apply Kd.R_drewN | apply Kd.R_drew)); exact (Kd.R_mono (Kd.R_far (p := ⟨Zhc, 3, none⟩) (Kd.R_far (p := ⟨Zhc, 2, none⟩) (Kd.R_far (p := ⟨Zhc, 1, none⟩) (Kd.R_far (p := ⟨Zhc, 0, none⟩) (Kd.R_mono HO_8.out (fun k_ hk => (⟨hk, hk.2⟩ : _ ∧ k_ ≠ Zhc))) (fun _ hk => hk.2) (.int .i64 ((rd_T25 l0 x72_4).f0))) (fun _ hk => hk.2) (.int .i64 ((rd_T25 l0 x72_4).f1))) (fun _ hk => hk.2) (.int .i64 ((rd_T25 l0 x72_4).f2))) (fun _ hk => hk.2) (.int .i64 ((rd_T25 l0 x72_4).f3))) (fun _ h_ => h_.1))) Zii (Nat.le_of_eq hg.symm)) hb); have n1_ := mA (blk_below (g := Za) (o := cQ25 t314 t315 t316 t317) (by (with_reducible repeat (first | refine blk_drewN ?_ _ | refine blk_drew ?_ | refine blk_alloc ?_ _)); refine far4 ?_ Zhg.out _ _ _ _; (with_reducible repeat (first | refine blk_drewN ?_ _ | refine blk_drew ?_ | refine blk_alloc ?_ _)); exact Zb.out) hb); have n2_ := mA (blk_below (g := Zn) (o := cQ25 t319 t320 t321 t322) (by (with_reducible repeat (first | refine blk_drewN ?_ _ | refine blk_drew ?_ | refine blk_alloc ?_ _)); refine far4 ?_ Zhi.out _ _ _ _; (with_reducible repeat (first | refine blk_drewN ?_ _ | refine blk_drew ?_ | refine blk_alloc ?_ _)); exact Zp.out) hb); have n3_ := mA (blk_below (g := Zhc) (o := cQ25 (((rd_T25 l0 x72_4).f0)) (((rd_T25 l0 x72_4).f1)) (((rd_T25 l0 x72_4).f2)) (((rd_T25 l0 x72_4).f3))) (by (with_reducible repeat (first | refine blk_drewN ?_ _ | refine blk_drew ?_ | refine blk_alloc ?_ _)); refine put4 (v0 := .int .i64 0) (v1 := .int .i64 0) (v2 := .int .i64 0) (v3 := .int .i64 0) ?_ _ _ _ _; (with_reducible repeat (first | refine blk_drewN ?_ _ | refine blk_drew ?_ | refine blk_alloc ?_ _)); exact Zhd.out) hb); have n4_ := mA (below_step (by repeat (first | (with_reducible first | exact HB.out | apply below_alloc | apply pw_below_drewN | apply below_drew1 | refine below_set ?_ Zd.out | refine below_set ?_ Zr.out | refine below_set ?_ Zhf.out) | exact HB.out)) hb); have n5_ := mA (hbox); have n6_ := mA ((by rw [hg]; exact (below_size (by repeat (first | (with_reducible first | exact HB.out | apply below_alloc | apply pw_below_drewN | apply below_drew1 | refine below_set ?_ Zd.out | refine below_set ?_ Zr.out | refine below_set ?_ Zhf.out) | exact HB.out))) : w.heap.size ≤ Zii)); have n7_ := mA ((by rw [hg]; exact (below_size (by repeat (first | (with_reducible first | exact HB.out | apply below_alloc | apply pw_below_drewN | apply below_drew1 | refine below_set ?_ Zd.out | refine below_set ?_ Zr.out | refine below_set ?_ Zhf.out) | exact HB.out))) : w.heap.size ≤ Zii)); have n8_ := mA ((by rw [hg]; exact Nat.ne_of_lt (blk_lt (g := Za) (o := cQ25 t314 t315 t316 t317) (by (with_reducible repeat (first | refine blk_drewN ?_ _ | refine blk_drew ?_ | refine blk_alloc ?_ _)); refine far4 ?_ Zhg.out _ _ _ _; (with_reducible repeat (first | refine blk_drewN ?_ _ | refine blk_drew ?_ | refine blk_alloc ?_ _)); exact Zb.out)) : Za ≠ Zii)); have n9_ := mA ((by rw [hg]; exact Nat.ne_of_gt (blk_lt (g := Za) (o := cQ25 t314 t315 t316 t317) (by (with_reducible repeat (first | refine blk_drewN ?_ _ | refine blk_drew ?_ | refine blk_alloc ?_ _)); refine far4 ?_ Zhg.out _ _ _ _; (with_reducible repeat (first | refine blk_drewN ?_ _ | refine blk_drew ?_ | refine blk_alloc ?_ _)); exact Zb.out)) : Zii ≠ Za)); have n10_ := mA ((by rw [hg]; exact Nat.ne_of_lt (blk_lt (g := Zn) (o := cQ25 t319 t320 t321 t322) (by (with_reducible repeat (first | refine blk_drewN ?_ _ | refine blk_drew ?_ | refine blk_alloc ?_ _)); refine far4 ?_ Zhi.out _ _ _ _; (with_reducible repeat (first | refine blk_drewN ?_ _ | refine blk_drew ?_ | refine blk_alloc ?_ _)); exact Zp.out)) : Zn ≠ Zii)); have n11_ := mA ((by rw [hg]; exact Nat.ne_of_gt (blk_lt (g := Zn) (o := cQ25 t319 t320 t321 t322) (by (with_reducible repeat (first | refine blk_drewN ?_ _ | refine blk_drew ?_ | refine blk_alloc ?_ _)); refine far4 ?_ Zhi.out _ _ _ _; (with_reducible repeat (first | refine blk_drewN ?_ _ | refine blk_drew ?_ | refine blk_alloc ?_ _)); exact Zp.out)) : Zii ≠ Zn)); have n12_ := mA ((by rw [hg]; exact Nat.ne_of_lt (blk_lt (g := Zhc) (o := cQ25 (((rd_T25 l0 x72_4).f0)) (((rd_T25 l0 x72_4).f1)) (((rd_T25 l0 x72_4).f2)) (((rd_T25 l0 x72_4).f3))) (by (with_reducible repeat (first | refine blk_drewN ?_ _ | refine blk_drew ?_ | refine blk_alloc ?_ _)); refine put4 (v0 := .int .i64 0) (v1 := .int .i64 0) (v2 := .int .i64 0) (v3 := .int .i64 0) ?_ _ _ _ _; (with_reducible repeat (first | refine blk_drewN ?_ _ | refine blk_drew ?_ | refine blk_alloc ?_ _)); exact Zhd.out)) : Zhc ≠ Zii)); have n13_ := mA ((by rw [hg]; exact Nat.ne_of_gt (blk_lt (g := Zhc) (o := cQ25 (((rd_T25 l0 x72_4).f0)) (((rd_T25 l0 x72_4).f1)) (((rd_T25 l0 x72_4).f2)) (((rd_T25 l0 x72_4).f3))) (by (with_reducible repeat (first | refine blk_drewN ?_ _ | refine blk_drew ?_ | refine blk_alloc ?_ _)); refine put4 (v0 := .int .i64 0) (v1 := .int .i64 0) (v2 := .int .i64 0) (v3 := .int .i64 0) ?_ _ _ _ _; (with_reducible repeat (first | refine blk_drewN ?_ _ | refine blk_drew ?_ | refine blk_alloc ?_ _)); exact Zhd.out)) : Zii ≠ Zhc)); clear HO_8; clear Zb; clear Zp; clear Zhd; clear HB; have HO_8 := n0_; have Zb := n1_; have Zp := n2_; have Zhd := n3_; have HB := n4_; have Zij := n5_; have Zik := n6_; have Zim := n7_; have Zin := n8_; have Zip := n9_; have Ziq := n10_; have Zir := n11_; have Zis := n12_; have Zit := n13_; clear n0_ n1_ n2_ n3_ n4_ n5_ n6_ n7_ n8_ n9_ n10_ n11_ n12_ n13_; clear hb hbox hg; have Ziu := Zip.out; have Ziv := Zin.out; have Ziw := Zir.out; have Zix := Ziq.out; have Ziy := Zit.out; have Ziz := Zis.out; have Zja : w156.cell? ⟨Zii, 0, none⟩ = some (.int .i64 0) := (blk_cell Zij.out 0).trans rfl; have Zjb : w156.cell? ⟨Zii, 1, none⟩ = some (.int .i64 0) := (blk_cell Zij.out 1).trans rfl; have Zjc : w156.cell? ⟨Zii, 2, none⟩ = some (.int .i64 0) := (blk_cell Zij.out 2).trans rfl; have Zjd : w156.cell? ⟨Zii, 3, none⟩ = some (.int .i64 0) := (blk_cell Zij.out 3).trans rfl; have hq0 := put8_0 (v0 := .int .i64 0) (v1 := .int .i64 0) (v2 := .int .i64 0) (v3 := .int .i64 0) Zij.out; have hq1 := put8_1 (v0 := .int .i64 0) (v1 := .int .i64 0) (v2 := .int .i64 0) (v3 := .int .i64 0) Zij.out; have hq2 := put8_2 (v0 := .int .i64 0) (v1 := .int .i64 0) (v2 := .int .i64 0) (v3 := .int .i64 0) Zij.out; have hq3 := put8_3 (v0 := .int .i64 0) (v1 := .int .i64 0) (v2 := .int .i64 0) (v3 := .int .i64 0) Zij.out; have Zje := blk_frozen Zij.out 0; have Zjf := blk_frozen Zij.out 1; have Zjg := blk_frozen Zij.out 2; have Zjh := blk_frozen Zij.out 3; have Zji : w156.cell? ⟨Zhc, 0, none⟩ = some (.int .i64 ((rd_T25 l0 x72_4).f0)) := (blk_cell Zhd.out 0).trans rfl; have Zjj : w156.cell? ⟨Zhc, 1, none⟩ = some (.int .i64 ((rd_T25 l0 x72_4).f1)) := (blk_cell Zhd.out 1).trans rfl; have Zjk : w156.cell? ⟨Zhc, 2, none⟩ = some (.int .i64 ((rd_T25 l0 x72_4).f2)) := (blk_cell Zhd.out 2).trans rfl; have Zjm : w156.cell? ⟨Zhc, 3, none⟩ = some (.int .i64 ((rd_T25 l0 x72_4).f3)) := (blk_cell Zhd.out 3).trans rfl; have Zjn := blk_frozen Zhd.out 0; have Zjp := blk_frozen Zhd.out 1; have Zjq := blk_frozen Zhd.out 2; have Zjr := blk_frozen Zhd.out 3) | ((with_reducible refine gate_callee (f := 51) rfl ?_); refine goesL_ (some 91) rfl rfl Try.func51 (by kernel_rfl) rfl #[.agg #[.int .i64 t319, .int .i64 t320, .int .i64 t321, .int .i64 t322], .agg #[.int .i64 ((rd_T25 l0 x72_4).f0), .int .i64 ((rd_T25 l0 x72_4).f1), .int .i64 ((rd_T25 l0 x72_4).f2), .int .i64 ((rd_T25 l0 x72_4).f3)]] rfl (by (try simp only [List.map_toArray, List.map_cons, List.map_nil]); first | done | rfl | (simp only [List.length_drop, List.length_take]; rfl)) ?_; (with_reducible refine (impl_minus.calls k4 t319 t320 t321 t322 ((rd_T25 l0 x72_4).f0) ((rd_T25 l0 x72_4).f1) ((rd_T25 l0 x72_4).f2) ((rd_T25 l0 x72_4).f3) t350 t351 t352 t353 false _ A127.out).mono ?_); rintro e w162 ⟨rfl, hb⟩; refine ⟨_, rfl, ?_⟩; have n0_ := mA (Kd.R_below (by (with_reducible repeat (first | apply Kd.R_alloc | apply Kd.R_drewN | apply Kd.R_drew)); exact (Kd.R_mono (Kd.R_far (p := ⟨Zii, 3, none⟩) (Kd.R_far (p := ⟨Zii, 2, none⟩) (Kd.R_far (p := ⟨Zii, 1, none⟩) (Kd.R_far (p := ⟨Zii, 0, none⟩) (Kd.R_mono HO_8.out (fun k_ hk => (⟨hk, hk.2⟩ : _ ∧ k_ ≠ Zii))) (fun _ hk => hk.2) (.int .i64 t319)) (fun _ hk => hk.2) (.int .i64 t320)) (fun _ hk => hk.2) (.int .i64 t321)) (fun _ hk => hk.2) (.int .i64 t322)) (fun _ h_ => h_.1))) hb); have n1_ := mA (blk_below (g := Za) (o := cQ25 t314 t315 t316 t317) (by (with_reducible repeat (first | refine blk_drewN ?_ _ | refine blk_drew ?_ | refine blk_alloc ?_ _)); refine far4 ?_ Zin.out _ _ _ _; (with_reducible repeat (first | refine blk_drewN ?_ _ | refine blk_drew ?_ | refine blk_alloc ?_ _)); exact Zb.out) hb); have n2_ := mA (blk_below (g := Zn) (o := cQ25 t319 t320 t321 t322) (by (with_reducible repeat (first | refine blk_drewN ?_ _ | refine blk_drew ?_ | refine blk_alloc ?_ _)); refine far4 ?_ Ziq.out _ _ _ _; (with_reducible repeat (first | refine blk_drewN ?_ _ | refine blk_drew ?_ | refine blk_alloc ?_ _)); exact Zp.out) hb); have n3_ := mA (blk_below (g := Zhc) (o := cQ25 (((rd_T25 l0 x72_4).f0)) (((rd_T25 l0 x72_4).f1)) (((rd_T25 l0 x72_4).f2)) (((rd_T25 l0 x72_4).f3))) (by (with_reducible repeat (first | refine blk_drewN ?_ _ | refine blk_drew ?_ | refine blk_alloc ?_ _)); refine far4 ?_ Zis.out _ _ _ _; (with_reducible repeat (first | refine blk_drewN ?_ _ | refine blk_drew ?_ | refine blk_alloc ?_ _)); exact Zhd.out) hb); have n4_ := mA (blk_below (g := Zii) (o := cQ25 t319 t320 t321 t322) (by (with_reducible repeat (first | refine blk_drewN ?_ _ | refine blk_drew ?_ | refine blk_alloc ?_ _)); refine put4 (v0 := .int .i64 0) (v1 := .int .i64 0) (v2 := .int .i64 0) (v3 := .int .i64 0) ?_ _ _ _ _; (with_reducible repeat (first | refine blk_drewN ?_ _ | refine blk_drew ?_ | refine blk_alloc ?_ _)); exact Zij.out) hb); have n5_ := mA (below_step (by repeat (first | (with_reducible first | exact HB.out | apply below_alloc | apply pw_below_drewN | apply below_drew1 | refine below_set ?_ Zd.out | refine below_set ?_ Zr.out | refine below_set ?_ Zhf.out | refine below_set ?_ Zim.out) | exact HB.out)) hb); clear HO_8; clear Zb; clear Zp; clear Zhd; clear Zij; clear HB; have HO_8 := n0_; have Zb := n1_; have Zp := n2_; have Zhd := n3_; have Zij := n4_; have HB := n5_; clear n0_ n1_ n2_ n3_ n4_ n5_; (try clear hb); (try clear hb2); (try clear hk); (try clear hi)) | ((with_reducible refine gate_dst (N := 12) rfl ?_); (try (refine gate_guard (by rfl) ?_; dsimp only)); refine box_event ?hg (N := 12) ?hd (cs := #[.int .i64 0, .int .i64 0, .int .i64 0, .int .i64 0]) (t := 25) ?hr ?_; (case hd => rfl); (case hg => rfl); (case hr => first | (go_simp; done) | (go_simp; rfl)); intro Zjs hg w163 hbox hb; have n0_ := mA (Kd.R_below (Kd.R_elderB (by (with_reducible repeat (first | apply Kd.R_alloc | apply Kd.R_drewN | apply Kd.R_drew)); exact HO_8.out) Zjs (Nat.le_of_eq hg.symm)) hb); have n1_ := mA (blk_below (g := Za) (o := cQ25 t314 t315 t316 t317) Zb.out hb); have n2_ := mA (blk_below (g := Zn) (o := cQ25 t319 t320 t321 t322) Zp.out hb); have n3_ := mA (blk_below (g := Zhc) (o := cQ25 (((rd_T25 l0 x72_4).f0)) (((rd_T25 l0 x72_4).f1)) (((rd_T25 l0 x72_4).f2)) (((rd_T25 l0 x72_4).f3))) Zhd.out hb); have n4_ := mA (blk_below (g := Zii) (o := cQ25 t319 t320 t321 t322) Zij.out hb); have n5_ := mA (below_step (by repeat (first | (with_reducible first | exact HB.out | apply below_alloc | apply pw_below_drewN | apply below_drew1 | refine below_set ?_ Zd.out | refine below_set ?_ Zr.out | refine below_set ?_ Zhf.out | refine below_set ?_ Zim.out) | exact HB.out)) hb); have n6_ := mA (hbox); have n7_ := mA ((by rw [hg]; exact (below_size (by repeat (first | (with_reducible first | exact HB.out | apply below_alloc | apply pw_below_drewN | apply below_drew1 | refine below_set ?_ Zd.out | refine below_set ?_ Zr.out | refine below_set ?_ Zhf.out | refine below_set ?_ Zim.out) | exact HB.out))) : w.heap.size ≤ Zjs)); have n8_ := mA ((by rw [hg]; exact (below_size (by repeat (first | (with_reducible first | exact HB.out | apply below_alloc | apply pw_below_drewN | apply below_drew1 | refine below_set ?_ Zd.out | refine below_set ?_ Zr.out | refine below_set ?_ Zhf.out | refine below_set ?_ Zim.out) | exact HB.out))) : w.heap.size ≤ Zjs)); have n9_ := mA ((by rw [hg]; exact Nat.ne_of_lt (blk_lt (g := Za) (o := cQ25 t314 t315 t316 t317) Zb.out) : Za ≠ Zjs)); have n10_ := mA ((by rw [hg]; exact Nat.ne_of_gt (blk_lt (g := Za) (o := cQ25 t314 t315 t316 t317) Zb.out) : Zjs ≠ Za)); have n11_ := mA ((by rw [hg]; exact Nat.ne_of_lt (blk_lt (g := Zn) (o := cQ25 t319 t320 t321 t322) Zp.out) : Zn ≠ Zjs)); have n12_ := mA ((by rw [hg]; exact Nat.ne_of_gt (blk_lt (g := Zn) (o := cQ25 t319 t320 t321 t322) Zp.out) : Zjs ≠ Zn)); have n13_ := mA ((by rw [hg]; exact Nat.ne_of_lt (blk_lt (g := Zhc) (o := cQ25 (((rd_T25 l0 x72_4).f0)) (((rd_T25 l0 x72_4).f1)) (((rd_T25 l0 x72_4).f2)) (((rd_T25 l0 x72_4).f3))) Zhd.out) : Zhc ≠ Zjs)); have n14_ := mA ((by rw [hg]; exact Nat.ne_of_gt (blk_lt (g := Zhc) (o := cQ25 (((rd_T25 l0 x72_4).f0)) (((rd_T25 l0 x72_4).f1)) (((rd_T25 l0 x72_4).f2)) (((rd_T25 l0 x72_4).f3))) Zhd.out) : Zjs ≠ Zhc)); have n15_ := mA ((by rw [hg]; exact Nat.ne_of_lt (blk_lt (g := Zii) (o := cQ25 t319 t320 t321 t322) Zij.out) : Zii ≠ Zjs)); have n16_ := mA ((by rw [hg]; exact Nat.ne_of_gt (blk_lt (g := Zii) (o := cQ25 t319 t320 t321 t322) Zij.out) : Zjs ≠ Zii)); clear HO_8; clear Zb; clear Zp; clear Zhd; clear Zij; clear HB; have HO_8 := n0_; have Zb := n1_; have Zp := n2_; have Zhd := n3_; have Zij := n4_; have HB := n5_; have Zjt := n6_; have Zju := n7_; have Zjv := n8_; have Zjw := n9_; have Zjx := n10_; have Zjy := n11_; have Zjz := n12_; have Zka := n13_; have Zkb := n14_; have Zkc := n15_; have Zkd := n16_; clear n0_ n1_ n2_ n3_ n4_ n5_ n6_ n7_ n8_ n9_ n10_ n11_ n12_ n13_ n14_ n15_ n16_; clear hb hbox hg; have Zke := Zjx.out; have Zkf := Zjw.out; have Zkg := Zjz.out; have Zkh := Zjy.out; have Zki := Zkb.out; have Zkj := Zka.out; have Zkk := Zkd.out; have Zkm := Zkc.out; have Zkn : w163.cell? ⟨Zjs, 0, none⟩ = some (.int .i64 0) := (blk_cell Zjt.out 0).trans rfl; have Zkp : w163.cell? ⟨Zjs, 1, none⟩ = some (.int .i64 0) := (blk_cell Zjt.out 1).trans rfl; have Zkq : w163.cell? ⟨Zjs, 2, none⟩ = some (.int .i64 0) := (blk_cell Zjt.out 2).trans rfl; have Zkr : w163.cell? ⟨Zjs, 3, none⟩ = some (.int .i64 0) := (blk_cell Zjt.out 3).trans rfl; have Zks := blk_frozen Zjt.out 0; have Zkt := blk_frozen Zjt.out 1; have Zku := blk_frozen Zjt.out 2; have Zkv := blk_frozen Zjt.out 3))
   go_ret
   exact ⟨_, by first | rfl | (simp [errW_none, errW_some] <;> rfl) | (simp [*, errW_none, errW_some] <;> rfl), by first | exact Kd.R_nil _ _ _ _ _ | exact Kd.N_nil _ _ _ _ _ | exact Kd.V_nil _ _ _ _ _ | exact Kd.Q_nil _ _ _ _ _ | exact Kd.S_nil _ _ _ _ _, by repeat (first | (with_reducible first | exact HB.out | apply below_alloc | apply pw_below_drewN | apply below_drew1 | refine below_set ?_ Zd.out | refine below_set ?_ Zr.out | refine below_set ?_ Zhf.out | refine below_set ?_ Zim.out | refine below_set ?_ Zjv.out) | exact HB.out)⟩
  subst c128
  have H1 : (if x8_4.length < 4398046511104 then (impl_StepsOf.l2 k4 l0 (x8_4 ++ [(⟨t350, t351, t352, t353⟩ : S25)]) l0 (l0.length : Int) (wrap64 (x72_4 + 1)) t319 t320 t321 t322) else (none)) = some r := by rw [if_pos rfl] at H; exact H
  clear H
  have H := H1
  clear H1
  by_cases c129 : x8_4.length < 4398046511104
  case neg =>
   rw [if_neg c129] at H
   exact absurd H (by simp)
  rw [if_pos c129] at H
  have LMc129 := mA c129
  clear c129
  obtain ⟨y356, hy356⟩ : ∃ y_ : List (S25), y_ = (x8_4 ++ [(⟨t350, t351, t352, t353⟩ : S25)]) := ⟨_, rfl⟩
  replace H : (impl_StepsOf.l2 k4 l0 y356 l0 (l0.length : Int) (wrap64 (x72_4 + 1)) t319 t320 t321 t322) = some r := by first | (rw [hy356]; with_reducible exact H) | (have H2_ := (Option.bind_some _ _).symm.trans H; rw [hy356]; with_reducible exact H2_) | (have H2_ := (Option.bind_some _ _).symm.trans H; with_reducible exact H2_) | with_reducible exact H | (rw [hy356]; exact H) | exact H
  have Ny356 := mA hy356
  clear hy356
  have H' := mA H
  clear H
  have p337 : 0 ≤ (x72_4 : Int) := of_decide_eq_true (by first | (with_reducible assumption) | assumption)
  have q337 : x72_4 < (l0.length : Int) := of_decide_eq_true (by first | (with_reducible assumption) | assumption)
  obtain ⟨ad337, e337, hx337_0, hx337_1, hx337_2, hx337_3⟩ := at_T25 HR0.out x72_4 p337 q337
  obtain rfl : ad329 = ad337 := (by injection e337)
  replace hx337_0 := (HB.out.cell (World.block_lt_of_cell? w _ hx337_0)).trans hx337_0
  replace hx337_1 := (HB.out.cell (World.block_lt_of_cell? w _ hx337_1)).trans hx337_1
  replace hx337_2 := (HB.out.cell (World.block_lt_of_cell? w _ hx337_2)).trans hx337_2
  replace hx337_3 := (HB.out.cell (World.block_lt_of_cell? w _ hx337_3)).trans hx337_3
  replace p337 := eq_true p337
  replace q337 := eq_true q337
  go_wp2_with (first | ((with_reducible refine gate_dst (N := 10) rfl ?_); (try (refine gate_guard (by rfl) ?_; dsimp only)); refine box_event ?hg (N := 10) ?hd (cs := #[.int .i64 0, .int .i64 0, .int .i64 0, .int .i64 0]) (t := 25) ?hr ?_; (case hd => rfl); (case hg => rfl); (case hr => first | (go_simp; done) | (go_simp; rfl)); intro Zhc hg w130 hbox hb; have n0_ := mA (Kd.R_below (Kd.R_elderB (by (with_reducible repeat (first | apply Kd.R_alloc | apply Kd.R_drewN | apply Kd.R_drew)); exact HO_8.out) Zhc (Nat.le_of_eq hg.symm)) hb); have n1_ := mA (blk_below (g := Za) (o := cQ25 t314 t315 t316 t317) Zb.out hb); have n2_ := mA (blk_below (g := Zn) (o := cQ25 t319 t320 t321 t322) Zp.out hb); have n3_ := mA (below_step (by repeat (first | (with_reducible first | exact HB.out | apply below_alloc | apply pw_below_drewN | apply below_drew1 | refine below_set ?_ Zd.out | refine below_set ?_ Zr.out) | exact HB.out)) hb); have n4_ := mA (hbox); have n5_ := mA ((by rw [hg]; exact (below_size (by repeat (first | (with_reducible first | exact HB.out | apply below_alloc | apply pw_below_drewN | apply below_drew1 | refine below_set ?_ Zd.out | refine below_set ?_ Zr.out) | exact HB.out))) : w.heap.size ≤ Zhc)); have n6_ := mA ((by rw [hg]; exact (below_size (by repeat (first | (with_reducible first | exact HB.out | apply below_alloc | apply pw_below_drewN | apply below_drew1 | refine below_set ?_ Zd.out | refine below_set ?_ Zr.out) | exact HB.out))) : w.heap.size ≤ Zhc)); have n7_ := mA ((by rw [hg]; exact Nat.ne_of_lt (blk_lt (g := Za) (o := cQ25 t314 t315 t316 t317) Zb.out) : Za ≠ Zhc)); have n8_ := mA ((by rw [hg]; exact Nat.ne_of_gt (blk_lt (g := Za) (o := cQ25 t314 t315 t316 t317) Zb.out) : Zhc ≠ Za)); have n9_ := mA ((by rw [hg]; exact Nat.ne_of_lt (blk_lt (g := Zn) (o := cQ25 t319 t320 t321 t322) Zp.out) : Zn ≠ Zhc)); have n10_ := mA ((by rw [hg]; exact Nat.ne_of_gt (blk_lt (g := Zn) (o := cQ25 t319 t320 t321 t322) Zp.out) : Zhc ≠ Zn)); clear HO_8; clear Zb; clear Zp; clear HB; have HO_8 := n0_; have Zb := n1_; have Zp := n2_; have HB := n3_; have Zhd := n4_; have Zhe := n5_; have Zhf := n6_; have Zhg := n7_; have Zhh := n8_; have Zhi := n9_; have Zhj := n10_; clear n0_ n1_ n2_ n3_ n4_ n5_ n6_ n7_ n8_ n9_ n10_; clear hb hbox hg; have Zkw := Zhh.out; have Zkx := Zhg.out; have Zky := Zhj.out; have Zkz := Zhi.out; have Zma : w130.cell? ⟨Zhc, 0, none⟩ = some (.int .i64 0) := (blk_cell Zhd.out 0).trans rfl; have Zmb : w130.cell? ⟨Zhc, 1, none⟩ = some (.int .i64 0) := (blk_cell Zhd.out 1).trans rfl; have Zmc : w130.cell? ⟨Zhc, 2, none⟩ = some (.int .i64 0) := (blk_cell Zhd.out 2).trans rfl; have Zmd : w130.cell? ⟨Zhc, 3, none⟩ = some (.int .i64 0) := (blk_cell Zhd.out 3).trans rfl; have Zme := blk_frozen Zhd.out 0; have Zmf := blk_frozen Zhd.out 1; have Zmg := blk_frozen Zhd.out 2; have Zmh := blk_frozen Zhd.out 3; have Zmi := Zt.out; have Zmj := Zs.out; have Zmk : w130.cell? ⟨Zn, 0, none⟩ = some (.int .i64 t319) := (blk_cell Zp.out 0).trans rfl; have Zmm : w130.cell? ⟨Zn, 1, none⟩ = some (.int .i64 t320) := (blk_cell Zp.out 1).trans rfl; have Zmn : w130.cell? ⟨Zn, 2, none⟩ = some (.int .i64 t321) := (blk_cell Zp.out 2).trans rfl; have Zmp : w130.cell? ⟨Zn, 3, none⟩ = some (.int .i64 t322) := (blk_cell Zp.out 3).trans rfl; have Zmq := blk_frozen Zp.out 0; have Zmr := blk_frozen Zp.out 1; have Zms := blk_frozen Zp.out 2; have Zmt := blk_frozen Zp.out 3) | ((with_reducible refine gate_dst (N := 11) rfl ?_); (try (refine gate_guard (by rfl) ?_; dsimp only)); refine box_event ?hg (N := 11) ?hd (cs := #[.int .i64 0, .int .i64 0, .int .i64 0, .int .i64 0]) (t := 25) ?hr ?_; (case hd => rfl); (case hg => rfl); (case hr => first | (go_simp; done) | (go_simp; rfl)); intro Zii hg w136 hbox hb; have n0_ := mA (Kd.R_below (Kd.R_elderB (by (with_reducible repeat (first | apply Kd.R_alloc | apply Kd.R_drewN | apply Kd.R_drew)); exact (Kd.R_mono (Kd.R_far (p := ⟨Zhc, 3, none⟩) (Kd.R_far (p := ⟨Zhc, 2, none⟩) (Kd.R_far (p := ⟨Zhc, 1, none⟩) (Kd.R_far (p := ⟨Zhc, 0, none⟩) (Kd.R_mono HO_8.out (fun k_ hk => (⟨hk, hk.2⟩ : _ ∧ k_ ≠ Zhc))) (fun _ hk => hk.2) (.int .i64 ((rd_T25 l0 x72_4).f0))) (fun _ hk => hk.2) (.int .i64 ((rd_T25 l0 x72_4).f1))) (fun _ hk => hk.2) (.int .i64 ((rd_T25 l0 x72_4).f2))) (fun _ hk => hk.2) (.int .i64 ((rd_T25 l0 x72_4).f3))) (fun _ h_ => h_.1))) Zii (Nat.le_of_eq hg.symm)) hb); have n1_ := mA (blk_below (g := Za) (o := cQ25 t314 t315 t316 t317) (by (with_reducible repeat (first | refine blk_drewN ?_ _ | refine blk_drew ?_ | refine blk_alloc ?_ _)); refine far4 ?_ Zhg.out _ _ _ _; (with_reducible repeat (first | refine blk_drewN ?_ _ | refine blk_drew ?_ | refine blk_alloc ?_ _)); exact Zb.out) hb); have n2_ := mA (blk_below (g := Zn) (o := cQ25 t319 t320 t321 t322) (by (with_reducible repeat (first | refine blk_drewN ?_ _ | refine blk_drew ?_ | refine blk_alloc ?_ _)); refine far4 ?_ Zhi.out _ _ _ _; (with_reducible repeat (first | refine blk_drewN ?_ _ | refine blk_drew ?_ | refine blk_alloc ?_ _)); exact Zp.out) hb); have n3_ := mA (blk_below (g := Zhc) (o := cQ25 (((rd_T25 l0 x72_4).f0)) (((rd_T25 l0 x72_4).f1)) (((rd_T25 l0 x72_4).f2)) (((rd_T25 l0 x72_4).f3))) (by (with_reducible repeat (first | refine blk_drewN ?_ _ | refine blk_drew ?_ | refine blk_alloc ?_ _)); refine put4 (v0 := .int .i64 0) (v1 := .int .i64 0) (v2 := .int .i64 0) (v3 := .int .i64 0) ?_ _ _ _ _; (with_reducible repeat (first | refine blk_drewN ?_ _ | refine blk_drew ?_ | refine blk_alloc ?_ _)); exact Zhd.out) hb); have n4_ := mA (below_step (by repeat (first | (with_reducible first | exact HB.out | apply below_alloc | apply pw_below_drewN | apply below_drew1 | refine below_set ?_ Zd.out | refine below_set ?_ Zr.out | refine below_set ?_ Zhf.out) | exact HB.out)) hb); have n5_ := mA (hbox); have n6_ := mA ((by rw [hg]; exact (below_size (by repeat (first | (with_reducible first | exact HB.out | apply below_alloc | apply pw_below_drewN | apply below_drew1 | refine below_set ?_ Zd.out | refine below_set ?_ Zr.out | refine below_set ?_ Zhf.out) | exact HB.out))) : w.heap.size ≤ Zii)); have n7_ := mA ((by rw [hg]; exact (below_size (by repeat (first | (with_reducible first | exact HB.out | apply below_alloc | apply pw_below_drewN | apply below_drew1 | refine below_set ?_ Zd.out | refine below_set ?_ Zr.out | refine below_set ?_ Zhf.out) | exact HB.out))) : w.heap.size ≤ Zii)); have n8_ := mA ((by rw [hg]; exact Nat.ne_of_lt (blk_lt (g := Za) (o := cQ25 t314 t315 t316 t317) (by (with_reducible repeat (first | refine blk_drewN ?_ _ | refine blk_drew ?_ | refine blk_alloc ?_ _)); refine far4 ?_ Zhg.out _ _ _ _; (with_reducible repeat (first | refine blk_drewN ?_ _ | refine blk_drew ?_ | refine blk_alloc ?_ _)); exact Zb.out)) : Za ≠ Zii)); have n9_ := mA ((by rw [hg]; exact Nat.ne_of_gt (blk_lt (g := Za) (o := cQ25 t314 t315 t316 t317) (by (with_reducible repeat (first | refine blk_drewN ?_ _ | refine blk_drew ?_ | refine blk_alloc ?_ _)); refine far4 ?_ Zhg.out _ _ _ _; (with_reducible repeat (first | refine blk_drewN ?_ _ | refine blk_drew ?_ | refine blk_alloc ?_ _)); exact Zb.out)) : Zii ≠ Za)); have n10_ := mA ((by rw [hg]; exact Nat.ne_of_lt (blk_lt (g := Zn) (o := cQ25 t319 t320 t321 t322) (by (with_reducible repeat (first | refine blk_drewN ?_ _ | refine blk_drew ?_ | refine blk_alloc ?_ _)); refine far4 ?_ Zhi.out _ _ _ _; (with_reducible repeat (first | refine blk_drewN ?_ _ | refine blk_drew ?_ | refine blk_alloc ?_ _)); exact Zp.out)) : Zn ≠ Zii)); have n11_ := mA ((by rw [hg]; exact Nat.ne_of_gt (blk_lt (g := Zn) (o := cQ25 t319 t320 t321 t322) (by (with_reducible repeat (first | refine blk_drewN ?_ _ | refine blk_drew ?_ | refine blk_alloc ?_ _)); refine far4 ?_ Zhi.out _ _ _ _; (with_reducible repeat (first | refine blk_drewN ?_ _ | refine blk_drew ?_ | refine blk_alloc ?_ _)); exact Zp.out)) : Zii ≠ Zn)); have n12_ := mA ((by rw [hg]; exact Nat.ne_of_lt (blk_lt (g := Zhc) (o := cQ25 (((rd_T25 l0 x72_4).f0)) (((rd_T25 l0 x72_4).f1)) (((rd_T25 l0 x72_4).f2)) (((rd_T25 l0 x72_4).f3))) (by (with_reducible repeat (first | refine blk_drewN ?_ _ | refine blk_drew ?_ | refine blk_alloc ?_ _)); refine put4 (v0 := .int .i64 0) (v1 := .int .i64 0) (v2 := .int .i64 0) (v3 := .int .i64 0) ?_ _ _ _ _; (with_reducible repeat (first | refine blk_drewN ?_ _ | refine blk_drew ?_ | refine blk_alloc ?_ _)); exact Zhd.out)) : Zhc ≠ Zii)); have n13_ := mA ((by rw [hg]; exact Nat.ne_of_gt (blk_lt (g := Zhc) (o := cQ25 (((rd_T25 l0 x72_4).f0)) (((rd_T25 l0 x72_4).f1)) (((rd_T25 l0 x72_4).f2)) (((rd_T25 l0 x72_4).f3))) (by (with_reducible repeat (first | refine blk_drewN ?_ _ | refine blk_drew ?_ | refine blk_alloc ?_ _)); refine put4 (v0 := .int .i64 0) (v1 := .int .i64 0) (v2 := .int .i64 0) (v3 := .int .i64 0) ?_ _ _ _ _; (with_reducible repeat (first | refine blk_drewN ?_ _ | refine blk_drew ?_ | refine blk_alloc ?_ _)); exact Zhd.out)) : Zii ≠ Zhc)); clear HO_8; clear Zb; clear Zp; clear Zhd; clear HB; have HO_8 := n0_; have Zb := n1_; have Zp := n2_; have Zhd := n3_; have HB := n4_; have Zij := n5_; have Zik := n6_; have Zim := n7_; have Zin := n8_; have Zip := n9_; have Ziq := n10_; have Zir := n11_; have Zis := n12_; have Zit := n13_; clear n0_ n1_ n2_ n3_ n4_ n5_ n6_ n7_ n8_ n9_ n10_ n11_ n12_ n13_; clear hb hbox hg; have Zmu := Zip.out; have Zmv := Zin.out; have Zmw := Zir.out; have Zmx := Ziq.out; have Zmy := Zit.out; have Zmz := Zis.out; have Zna : w136.cell? ⟨Zii, 0, none⟩ = some (.int .i64 0) := (blk_cell Zij.out 0).trans rfl; have Znb : w136.cell? ⟨Zii, 1, none⟩ = some (.int .i64 0) := (blk_cell Zij.out 1).trans rfl; have Znc : w136.cell? ⟨Zii, 2, none⟩ = some (.int .i64 0) := (blk_cell Zij.out 2).trans rfl; have Znd : w136.cell? ⟨Zii, 3, none⟩ = some (.int .i64 0) := (blk_cell Zij.out 3).trans rfl; have hq0 := put8_0 (v0 := .int .i64 0) (v1 := .int .i64 0) (v2 := .int .i64 0) (v3 := .int .i64 0) Zij.out; have hq1 := put8_1 (v0 := .int .i64 0) (v1 := .int .i64 0) (v2 := .int .i64 0) (v3 := .int .i64 0) Zij.out; have hq2 := put8_2 (v0 := .int .i64 0) (v1 := .int .i64 0) (v2 := .int .i64 0) (v3 := .int .i64 0) Zij.out; have hq3 := put8_3 (v0 := .int .i64 0) (v1 := .int .i64 0) (v2 := .int .i64 0) (v3 := .int .i64 0) Zij.out; have Zne := blk_frozen Zij.out 0; have Znf := blk_frozen Zij.out 1; have Zng := blk_frozen Zij.out 2; have Znh := blk_frozen Zij.out 3; have Zni : w136.cell? ⟨Zhc, 0, none⟩ = some (.int .i64 ((rd_T25 l0 x72_4).f0)) := (blk_cell Zhd.out 0).trans rfl; have Znj : w136.cell? ⟨Zhc, 1, none⟩ = some (.int .i64 ((rd_T25 l0 x72_4).f1)) := (blk_cell Zhd.out 1).trans rfl; have Znk : w136.cell? ⟨Zhc, 2, none⟩ = some (.int .i64 ((rd_T25 l0 x72_4).f2)) := (blk_cell Zhd.out 2).trans rfl; have Znm : w136.cell? ⟨Zhc, 3, none⟩ = some (.int .i64 ((rd_T25 l0 x72_4).f3)) := (blk_cell Zhd.out 3).trans rfl; have Znn := blk_frozen Zhd.out 0; have Znp := blk_frozen Zhd.out 1; have Znq := blk_frozen Zhd.out 2; have Znr := blk_frozen Zhd.out 3) | ((with_reducible refine gate_callee (f := 51) rfl ?_); refine goesL_ (some 91) rfl rfl Try.func51 (by kernel_rfl) rfl #[.agg #[.int .i64 t319, .int .i64 t320, .int .i64 t321, .int .i64 t322], .agg #[.int .i64 ((rd_T25 l0 x72_4).f0), .int .i64 ((rd_T25 l0 x72_4).f1), .int .i64 ((rd_T25 l0 x72_4).f2), .int .i64 ((rd_T25 l0 x72_4).f3)]] rfl (by (try simp only [List.map_toArray, List.map_cons, List.map_nil]); first | done | rfl | (simp only [List.length_drop, List.length_take]; rfl)) ?_; (with_reducible refine (impl_minus.calls k4 t319 t320 t321 t322 ((rd_T25 l0 x72_4).f0) ((rd_T25 l0 x72_4).f1) ((rd_T25 l0 x72_4).f2) ((rd_T25 l0 x72_4).f3) t350 t351 t352 t353 true _ A127.out).mono ?_); rintro e w142 ⟨rfl, hb⟩; refine ⟨_, rfl, ?_⟩; have n0_ := mA (Kd.R_below (by (with_reducible repeat (first | apply Kd.R_alloc | apply Kd.R_drewN | apply Kd.R_drew)); exact (Kd.R_mono (Kd.R_far (p := ⟨Zii, 3, none⟩) (Kd.R_far (p := ⟨Zii, 2, none⟩) (Kd.R_far (p := ⟨Zii, 1, none⟩) (Kd.R_far (p := ⟨Zii, 0, none⟩) (Kd.R_mono HO_8.out (fun k_ hk => (⟨hk, hk.2⟩ : _ ∧ k_ ≠ Zii))) (fun _ hk => hk.2) (.int .i64 t319)) (fun _ hk => hk.2) (.int .i64 t320)) (fun _ hk => hk.2) (.int .i64 t321)) (fun _ hk => hk.2) (.int .i64 t322)) (fun _ h_ => h_.1))) hb); have n1_ := mA (blk_below (g := Za) (o := cQ25 t314 t315 t316 t317) (by (with_reducible repeat (first | refine blk_drewN ?_ _ | refine blk_drew ?_ | refine blk_alloc ?_ _)); refine far4 ?_ Zin.out _ _ _ _; (with_reducible repeat (first | refine blk_drewN ?_ _ | refine blk_drew ?_ | refine blk_alloc ?_ _)); exact Zb.out) hb); have n2_ := mA (blk_below (g := Zn) (o := cQ25 t319 t320 t321 t322) (by (with_reducible repeat (first | refine blk_drewN ?_ _ | refine blk_drew ?_ | refine blk_alloc ?_ _)); refine far4 ?_ Ziq.out _ _ _ _; (with_reducible repeat (first | refine blk_drewN ?_ _ | refine blk_drew ?_ | refine blk_alloc ?_ _)); exact Zp.out) hb); have n3_ := mA (blk_below (g := Zhc) (o := cQ25 (((rd_T25 l0 x72_4).f0)) (((rd_T25 l0 x72_4).f1)) (((rd_T25 l0 x72_4).f2)) (((rd_T25 l0 x72_4).f3))) (by (with_reducible repeat (first | refine blk_drewN ?_ _ | refine blk_drew ?_ | refine blk_alloc ?_ _)); refine far4 ?_ Zis.out _ _ _ _; (with_reducible repeat (first | refine blk_drewN ?_ _ | refine blk_drew ?_ | refine blk_alloc ?_ _)); exact Zhd.out) hb); have n4_ := mA (blk_below (g := Zii) (o := cQ25 t319 t320 t321 t322) (by (with_reducible repeat (first | refine blk_drewN ?_ _ | refine blk_drew ?_ | refine blk_alloc ?_ _)); refine put4 (v0 := .int .i64 0) (v1 := .int .i64 0) (v2 := .int .i64 0) (v3 := .int .i64 0) ?_ _ _ _ _; (with_reducible repeat (first | refine blk_drewN ?_ _ | refine blk_drew ?_ | refine blk_alloc ?_ _)); exact Zij.out) hb); have n5_ := mA (below_step (by repeat (first | (with_reducible first | exact HB.out | apply below_alloc | apply pw_below_drewN | apply below_drew1 | refine below_set ?_ Zd.out | refine below_set ?_ Zr.out | refine below_set ?_ Zhf.out | refine below_set ?_ Zim.out) | exact HB.out)) hb); clear HO_8; clear Zb; clear Zp; clear Zhd; clear Zij; clear HB; have HO_8 := n0_; have Zb := n1_; have Zp := n2_; have Zhd := n3_; have Zij := n4_; have HB := n5_; clear n0_ n1_ n2_ n3_ n4_ n5_; (try clear hb); (try clear hb2); (try clear hk); (try clear hi)) | ((with_reducible refine gate_dst (N := 12) rfl ?_); (try (refine gate_guard (by rfl) ?_; dsimp only)); refine box_event ?hg (N := 12) ?hd (cs := #[.int .i64 0, .int .i64 0, .int .i64 0, .int .i64 0]) (t := 25) ?hr ?_; (case hd => rfl); (case hg => rfl); (case hr => first | (go_simp; done) | (go_simp; rfl)); intro Zjs hg w143 hbox hb; have n0_ := mA (Kd.R_below (Kd.R_elderB (by (with_reducible repeat (first | apply Kd.R_alloc | apply Kd.R_drewN | apply Kd.R_drew)); exact HO_8.out) Zjs (Nat.le_of_eq hg.symm)) hb); have n1_ := mA (blk_below (g := Za) (o := cQ25 t314 t315 t316 t317) Zb.out hb); have n2_ := mA (blk_below (g := Zn) (o := cQ25 t319 t320 t321 t322) Zp.out hb); have n3_ := mA (blk_below (g := Zhc) (o := cQ25 (((rd_T25 l0 x72_4).f0)) (((rd_T25 l0 x72_4).f1)) (((rd_T25 l0 x72_4).f2)) (((rd_T25 l0 x72_4).f3))) Zhd.out hb); have n4_ := mA (blk_below (g := Zii) (o := cQ25 t319 t320 t321 t322) Zij.out hb); have n5_ := mA (below_step (by repeat (first | (with_reducible first | exact HB.out | apply below_alloc | apply pw_below_drewN | apply below_drew1 | refine below_set ?_ Zd.out | refine below_set ?_ Zr.out | refine below_set ?_ Zhf.out | refine below_set ?_ Zim.out) | exact HB.out)) hb); have n6_ := mA (hbox); have n7_ := mA ((by rw [hg]; exact (below_size (by repeat (first | (with_reducible first | exact HB.out | apply below_alloc | apply pw_below_drewN | apply below_drew1 | refine below_set ?_ Zd.out | refine below_set ?_ Zr.out | refine below_set ?_ Zhf.out | refine below_set ?_ Zim.out) | exact HB.out))) : w.heap.size ≤ Zjs)); have n8_ := mA ((by rw [hg]; exact (below_size (by repeat (first | (with_reducible first | exact HB.out | apply below_alloc | apply pw_below_drewN | apply below_drew1 | refine below_set ?_ Zd.out | refine below_set ?_ Zr.out | refine below_set ?_ Zhf.out | refine below_set ?_ Zim.out) | exact HB.out))) : w.heap.size ≤ Zjs)); have n9_ := mA ((by rw [hg]; exact Nat.ne_of_lt (blk_lt (g := Za) (o := cQ25 t314 t315 t316 t317) Zb.out) : Za ≠ Zjs)); have n10_ := mA ((by rw [hg]; exact Nat.ne_of_gt (blk_lt (g := Za) (o := cQ25 t314 t315 t316 t317) Zb.out) : Zjs ≠ Za)); have n11_ := mA ((by rw [hg]; exact Nat.ne_of_lt (blk_lt (g := Zn) (o := cQ25 t319 t320 t321 t322) Zp.out) : Zn ≠ Zjs)); have n12_ := mA ((by rw [hg]; exact Nat.ne_of_gt (blk_lt (g := Zn) (o := cQ25 t319 t320 t321 t322) Zp.out) : Zjs ≠ Zn)); have n13_ := mA ((by rw [hg]; exact Nat.ne_of_lt (blk_lt (g := Zhc) (o := cQ25 (((rd_T25 l0 x72_4).f0)) (((rd_T25 l0 x72_4).f1)) (((rd_T25 l0 x72_4).f2)) (((rd_T25 l0 x72_4).f3))) Zhd.out) : Zhc ≠ Zjs)); have n14_ := mA ((by rw [hg]; exact Nat.ne_of_gt (blk_lt (g := Zhc) (o := cQ25 (((rd_T25 l0 x72_4).f0)) (((rd_T25 l0 x72_4).f1)) (((rd_T25 l0 x72_4).f2)) (((rd_T25 l0 x72_4).f3))) Zhd.out) : Zjs ≠ Zhc)); have n15_ := mA ((by rw [hg]; exact Nat.ne_of_lt (blk_lt (g := Zii) (o := cQ25 t319 t320 t321 t322) Zij.out) : Zii ≠ Zjs)); have n16_ := mA ((by rw [hg]; exact Nat.ne_of_gt (blk_lt (g := Zii) (o := cQ25 t319 t320 t321 t322) Zij.out) : Zjs ≠ Zii)); clear HO_8; clear Zb; clear Zp; clear Zhd; clear Zij; clear HB; have HO_8 := n0_; have Zb := n1_; have Zp := n2_; have Zhd := n3_; have Zij := n4_; have HB := n5_; have Zjt := n6_; have Zju := n7_; have Zjv := n8_; have Zjw := n9_; have Zjx := n10_; have Zjy := n11_; have Zjz := n12_; have Zka := n13_; have Zkb := n14_; have Zkc := n15_; have Zkd := n16_; clear n0_ n1_ n2_ n3_ n4_ n5_ n6_ n7_ n8_ n9_ n10_ n11_ n12_ n13_ n14_ n15_ n16_; clear hb hbox hg; have Zns := Zjx.out; have Znt := Zjw.out; have Znu := Zjz.out; have Znv := Zjy.out; have Znw := Zkb.out; have Znx := Zka.out; have Zny := Zkd.out; have Znz := Zkc.out; have Zpa : w143.cell? ⟨Zjs, 0, none⟩ = some (.int .i64 0) := (blk_cell Zjt.out 0).trans rfl; have Zpb : w143.cell? ⟨Zjs, 1, none⟩ = some (.int .i64 0) := (blk_cell Zjt.out 1).trans rfl; have Zpc : w143.cell? ⟨Zjs, 2, none⟩ = some (.int .i64 0) := (blk_cell Zjt.out 2).trans rfl; have Zpd : w143.cell? ⟨Zjs, 3, none⟩ = some (.int .i64 0) := (blk_cell Zjt.out 3).trans rfl; have Zpe := blk_frozen Zjt.out 0; have Zpf := blk_frozen Zjt.out 1; have Zpg := blk_frozen Zjt.out 2; have Zph := blk_frozen Zjt.out 3) | ((with_reducible refine gate_builtin (b := .append) (xs := #[.tmp 96, .tmp 98]) rfl ?_); (try (refine gate_guard (by rfl) ?_; dsimp only)); at_builtin; refine Kd.R_append k25 (w0 := w) w.heap.size rfl (.tmp 96) (.tmp 98) 45 25 (.agg #[(.int .i64 0), (.int .i64 0), (.int .i64 0), (.int .i64 0)]) 32 rfl Try.underlying45 info25 rfl (by decide) (by omega) u8 x8_4 (⟨t350, t351, t352, t353⟩ : S25) [.int .i64 t350, .int .i64 t351, .int .i64 t352, .int .i64 t353] (fun k_ => k_ ≠ Za ∧ k_ ≠ Zn ∧ k_ ≠ Zhc ∧ k_ ≠ Zii ∧ k_ ≠ Zjs) (fun _ => False) rfl (by first | (go_simp; done) | (go_simp; rfl)) ?aP (fun _ hk => hk.elim) ?aF ?aO ?aB ?aS ?aL ?_; (case aP => exact k25_mkM _ _ _ (⟨t350, t351, t352, t353⟩ : S25)); (case aB => exact (by repeat (first | (with_reducible first | exact HB.out | apply below_alloc | apply pw_below_drewN | apply below_drew1 | refine below_set ?_ Zd.out | refine below_set ?_ Zr.out | refine below_set ?_ Zhf.out | refine below_set ?_ Zim.out | refine below_set ?_ Zjv.out) | exact HB.out))); (case aF => exact (fun k_ hk => ⟨Kd.freshB (g := Za) (o := cQ25 t314 t315 t316 t317) (by (with_reducible repeat (first | refine blk_drewN ?_ _ | refine blk_drew ?_ | refine blk_alloc ?_ _)); refine far4 ?_ Zjw.out _ _ _ _; (with_reducible repeat (first | refine blk_drewN ?_ _ | refine blk_drew ?_ | refine blk_alloc ?_ _)); exact Zb.out) k_ hk, Kd.freshB (g := Zn) (o := cQ25 t319 t320 t321 t322) (by (with_reducible repeat (first | refine blk_drewN ?_ _ | refine blk_drew ?_ | refine blk_alloc ?_ _)); refine far4 ?_ Zjy.out _ _ _ _; (with_reducible repeat (first | refine blk_drewN ?_ _ | refine blk_drew ?_ | refine blk_alloc ?_ _)); exact Zp.out) k_ hk, Kd.freshB (g := Zhc) (o := cQ25 (((rd_T25 l0 x72_4).f0)) (((rd_T25 l0 x72_4).f1)) (((rd_T25 l0 x72_4).f2)) (((rd_T25 l0 x72_4).f3))) (by (with_reducible repeat (first | refine blk_drewN ?_ _ | refine blk_drew ?_ | refine blk_alloc ?_ _)); refine far4 ?_ Zka.out _ _ _ _; (with_reducible repeat (first | refine blk_drewN ?_ _ | refine blk_drew ?_ | refine blk_alloc ?_ _)); exact Zhd.out) k_ hk, Kd.freshB (g := Zii) (o := cQ25 t319 t320 t321 t322) (by (with_reducible repeat (first | refine blk_drewN ?_ _ | refine blk_drew ?_ | refine blk_alloc ?_ _)); refine far4 ?_ Zkc.out _ _ _ _; (with_reducible repeat (first | refine blk_drewN ?_ _ | refine blk_drew ?_ | refine blk_alloc ?_ _)); exact Zij.out) k_ hk, Kd.freshB (g := Zjs) (o := cQ25 t350 t351 t352 t353) (by (with_reducible repeat (first | refine blk_drewN ?_ _ | refine blk_drew ?_ | refine blk_alloc ?_ _)); refine put4 (v0 := .int .i64 0) (v1 := .int .i64 0) (v2 := .int .i64 0) (v3 := .int .i64 0) ?_ _ _ _ _; (with_reducible repeat (first | refine blk_drewN ?_ _ | refine blk_drew ?_ | refine blk_alloc ?_ _)); exact Zjt.out) k_ hk⟩)); (case aO => exact (by (with_reducible repeat (first | apply Kd.R_alloc | apply Kd.R_drewN | apply Kd.R_drew)); exact Kd.R_mono (Kd.R_far (p := ⟨Zjs, 3, none⟩) (Kd.R_far (p := ⟨Zjs, 2, none⟩) (Kd.R_far (p := ⟨Zjs, 1, none⟩) (Kd.R_far (p := ⟨Zjs, 0, none⟩) (Kd.R_mono HO_8.out (fun k_ hk => (⟨hk, hk.2⟩ : _ ∧ k_ ≠ Zjs))) (fun _ hk => hk.2) (.int .i64 t350)) (fun _ hk => hk.2) (.int .i64 t351)) (fun _ hk => hk.2) (.int .i64 t352)) (fun _ hk => hk.2) (.int .i64 t353)) (fun _ hk => ⟨hk.1.1.1.1.1, ⟨hk.1.1.1.1.2, ⟨hk.1.1.1.2, ⟨hk.1.1.2, hk.1.2⟩⟩⟩⟩))); (case aS => exact (below_size (by repeat (first | (with_reducible first | exact HB.out | apply below_alloc | apply pw_below_drewN | apply below_drew1 | refine below_set ?_ Zd.out | refine below_set ?_ Zr.out | refine below_set ?_ Zhf.out | refine below_set ?_ Zim.out | refine below_set ?_ Zjv.out) | exact HB.out)))); (case aL => have := LMc129.out; omega); intro v357 w149 ho hb hg hat; rw [← Ny356.out] at ho; have n0_ := mA (blk_grown (g := Za) (o := cQ25 t314 t315 t316 t317) (by (with_reducible repeat (first | refine blk_drewN ?_ _ | refine blk_drew ?_ | refine blk_alloc ?_ _)); refine far4 ?_ Zjw.out _ _ _ _; (with_reducible repeat (first | refine blk_drewN ?_ _ | refine blk_drew ?_ | refine blk_alloc ?_ _)); exact Zb.out) hg (Kd.R_away HO_8.out (fun _ hk => hk.1.1.1.1))); have n1_ := mA (blk_grown (g := Zn) (o := cQ25 t319 t320 t321 t322) (by (with_reducible repeat (first | refine blk_drewN ?_ _ | refine blk_drew ?_ | refine blk_alloc ?_ _)); refine far4 ?_ Zjy.out _ _ _ _; (with_reducible repeat (first | refine blk_drewN ?_ _ | refine blk_drew ?_ | refine blk_alloc ?_ _)); exact Zp.out) hg (Kd.R_away HO_8.out (fun _ hk => hk.1.1.1.2))); have n2_ := mA (blk_grown (g := Zhc) (o := cQ25 (((rd_T25 l0 x72_4).f0)) (((rd_T25 l0 x72_4).f1)) (((rd_T25 l0 x72_4).f2)) (((rd_T25 l0 x72_4).f3))) (by (with_reducible repeat (first | refine blk_drewN ?_ _ | refine blk_drew ?_ | refine blk_alloc ?_ _)); refine far4 ?_ Zka.out _ _ _ _; (with_reducible repeat (first | refine blk_drewN ?_ _ | refine blk_drew ?_ | refine blk_alloc ?_ _)); exact Zhd.out) hg (Kd.R_away HO_8.out (fun _ hk => hk.1.1.2))); have n3_ := mA (blk_grown (g := Zii) (o := cQ25 t319 t320 t321 t322) (by (with_reducible repeat (first | refine blk_drewN ?_ _ | refine blk_drew ?_ | refine blk_alloc ?_ _)); refine far4 ?_ Zkc.out _ _ _ _; (with_reducible repeat (first | refine blk_drewN ?_ _ | refine blk_drew ?_ | refine blk_alloc ?_ _)); exact Zij.out) hg (Kd.R_away HO_8.out (fun _ hk => hk.1.2))); have n4_ := mA (blk_grown (g := Zjs) (o := cQ25 t350 t351 t352 t353) (by (with_reducible repeat (first | refine blk_drewN ?_ _ | refine blk_drew ?_ | refine blk_alloc ?_ _)); refine put4 (v0 := .int .i64 0) (v1 := .int .i64 0) (v2 := .int .i64 0) (v3 := .int .i64 0) ?_ _ _ _ _; (with_reducible repeat (first | refine blk_drewN ?_ _ | refine blk_drew ?_ | refine blk_alloc ?_ _)); exact Zjt.out) hg (Kd.R_away HO_8.out (fun _ hk => hk.2))); have n5_ := mA (hb); have n6_ := mA (ho); clear Zb; clear Zp; clear Zhd; clear Zij; clear Zjt; clear HB; clear HO_8; have Zb := n0_; have Zp := n1_; have Zhd := n2_; have Zij := n3_; have Zjt := n4_; have HB := n5_; have HO358 := n6_; clear n0_ n1_ n2_ n3_ n4_ n5_ n6_; clear ho hb hg hat))
  go_roundg k4
  case measure => have := HJ3.out; have := HK2.out; have := HK3.out; have := HK4.out; omega
  case rel => exact ⟨(y356), (wrap64 (x72_4 + 1)), (by first | rfl | (simp; done) | (simp [*]; done)), H', ⟨by have := HJ3.out; have := HK2.out; have := HK3.out; have := HK4.out; omega⟩, ⟨by (with_reducible repeat (first | apply Kd.R_alloc | apply Kd.R_drewN | apply Kd.R_drew)); exact Kd.R_mono HO358.out (fun _ hk => ⟨hk.1, hk.2.1⟩)⟩, ⟨by (with_reducible repeat (first | refine blk_drewN ?_ _ | refine blk_drew ?_ | refine blk_alloc ?_ _)); exact Zb.out⟩, ⟨by (with_reducible repeat (first | refine blk_drewN ?_ _ | refine blk_drew ?_ | refine blk_alloc ?_ _)); exact Zp.out⟩, ⟨by repeat (first | (with_reducible first | exact HB.out | apply below_alloc | apply pw_below_drewN | apply below_drew1 | refine below_set ?_ Zd.out | refine below_set ?_ Zr.out | refine below_set ?_ Zhf.out | refine below_set ?_ Zim.out | refine below_set ?_ Zjv.out) | exact HB.out)⟩⟩
 rw [if_pos c82] at H
 have c82b0 : decide ((wrap64 (x72_4 + 1)) < (l0.length : Int)) = true := decide_eq_true c82
 clear c82
 obtain ⟨ji83, hji83⟩ : ∃ j_ : Int, (wrap64 (x72_4 + 1)) = j_ := ⟨_, rfl⟩
 replace H : (if 0 ≤ (ji83) then ((impl_minus.f k4 ((rd_T25 l0 (ji83)).f0) ((rd_T25 l0 (ji83)).f1) ((rd_T25 l0 (ji83)).f2) ((rd_T25 l0 (ji83)).f3) ((rd_T25 l0 x72_4).f0) ((rd_T25 l0 x72_4).f1) ((rd_T25 l0 x72_4).f2) ((rd_T25 l0 x72_4).f3)).bind fun bt341 => (if bt341.2.2.2.2 = true then (if x8_4.length < 4398046511104 then (impl_StepsOf.l2 k4 l0 (x8_4 ++ [(⟨bt341.1, bt341.2.1, bt341.2.2.1, bt341.2.2.2.1⟩ : S25)]) l0 (l0.length : Int) ji83 t319 t320 t321 t322) else (none)) else (some ([] : List (S25))))) else (none)) = some r := by first | (rw [hji83] at H; exact H) | (simp only [hji83] at H ⊢; exact H)
 (try rw [hji83] at c82b0)
 have hji83w : (IntKind.i64.wrap (x72_4 + 1)) = ji83 := (i64_w _).trans hji83
 by_cases c84 : 0 ≤ (ji83)
 case neg =>
  rw [if_neg c84] at H
  exact absurd H (by simp)
 rw [if_pos c84] at H
 have c84b0 : decide (0 ≤ (ji83)) = true := decide_eq_true c84
 clear c84
 replace H := Option.bind_eq_some_iff.mp H
 obtain ⟨⟨t341, t342, t343, t344, t345⟩, A850, H⟩ := H
 replace H : (if t345 = true then (if x8_4.length < 4398046511104 then (impl_StepsOf.l2 k4 l0 (x8_4 ++ [(⟨t341, t342, t343, t344⟩ : S25)]) l0 (l0.length : Int) ji83 t319 t320 t321 t322) else (none)) else (some ([] : List (S25)))) = some r := H
 have A85 := mA A850
 clear A850
 by_cases c86 : t345 = true
 case neg =>
  replace c86 := Bool.eq_false_iff.mpr c86
  subst c86
  have H1 : (some ([] : List (S25))) = some r := by rw [if_neg (show ¬ (false = true) by decide)] at H; exact H
  clear H
  have H := H1
  clear H1
  obtain rfl := Option.some.inj H
  have p337 : 0 ≤ (x72_4 : Int) := of_decide_eq_true (by first | (with_reducible assumption) | assumption)
  have q337 : x72_4 < (l0.length : Int) := of_decide_eq_true (by first | (with_reducible assumption) | assumption)
  obtain ⟨ad337, e337, hx337_0, hx337_1, hx337_2, hx337_3⟩ := at_T25 HR0.out x72_4 p337 q337
  obtain rfl : ad329 = ad337 := (by injection e337)
  replace hx337_0 := (HB.out.cell (World.block_lt_of_cell? w _ hx337_0)).trans hx337_0
  replace hx337_1 := (HB.out.cell (World.block_lt_of_cell? w _ hx337_1)).trans hx337_1
  replace hx337_2 := (HB.out.cell (World.block_lt_of_cell? w _ hx337_2)).trans hx337_2
  replace hx337_3 := (HB.out.cell (World.block_lt_of_cell? w _ hx337_3)).trans hx337_3
  replace p337 := eq_true p337
  replace q337 := eq_true q337
  go_wp2_with (first | ((with_reducible refine gate_dst (N := 10) rfl ?_); (try (refine gate_guard (by rfl) ?_; dsimp only)); refine box_event ?hg (N := 10) ?hd (cs := #[.int .i64 0, .int .i64 0, .int .i64 0, .int .i64 0]) (t := 25) ?hr ?_; (case hd => rfl); (case hg => rfl); (case hr => first | (go_simp; done) | (go_simp; rfl)); intro Zhc hg w108 hbox hb; have n0_ := mA (Kd.R_below (Kd.R_elderB (by (with_reducible repeat (first | apply Kd.R_alloc | apply Kd.R_drewN | apply Kd.R_drew)); exact HO_8.out) Zhc (Nat.le_of_eq hg.symm)) hb); have n1_ := mA (blk_below (g := Za) (o := cQ25 t314 t315 t316 t317) Zb.out hb); have n2_ := mA (blk_below (g := Zn) (o := cQ25 t319 t320 t321 t322) Zp.out hb); have n3_ := mA (below_step (by repeat (first | (with_reducible first | exact HB.out | apply below_alloc | apply pw_below_drewN | apply below_drew1 | refine below_set ?_ Zd.out | refine below_set ?_ Zr.out) | exact HB.out)) hb); have n4_ := mA (hbox); have n5_ := mA ((by rw [hg]; exact (below_size (by repeat (first | (with_reducible first | exact HB.out | apply below_alloc | apply pw_below_drewN | apply below_drew1 | refine below_set ?_ Zd.out | refine below_set ?_ Zr.out) | exact HB.out))) : w.heap.size ≤ Zhc)); have n6_ := mA ((by rw [hg]; exact (below_size (by repeat (first | (with_reducible first | exact HB.out | apply below_alloc | apply pw_below_drewN | apply below_drew1 | refine below_set ?_ Zd.out | refine below_set ?_ Zr.out) | exact HB.out))) : w.heap.size ≤ Zhc)); have n7_ := mA ((by rw [hg]; exact Nat.ne_of_lt (blk_lt (g := Za) (o := cQ25 t314 t315 t316 t317) Zb.out) : Za ≠ Zhc)); have n8_ := mA ((by rw [hg]; exact Nat.ne_of_gt (blk_lt (g := Za) (o := cQ25 t314 t315 t316 t317) Zb.out) : Zhc ≠ Za)); have n9_ := mA ((by rw [hg]; exact Nat.ne_of_lt (blk_lt (g := Zn) (o := cQ25 t319 t320 t321 t322) Zp.out) : Zn ≠ Zhc)); have n10_ := mA ((by rw [hg]; exact Nat.ne_of_gt (blk_lt (g := Zn) (o := cQ25 t319 t320 t321 t322) Zp.out) : Zhc ≠ Zn)); clear HO_8; clear Zb; clear Zp; clear HB; have HO_8 := n0_; have Zb := n1_; have Zp := n2_; have HB := n3_; have Zhd := n4_; have Zhe := n5_; have Zhf := n6_; have Zhg := n7_; have Zhh := n8_; have Zhi := n9_; have Zhj := n10_; clear n0_ n1_ n2_ n3_ n4_ n5_ n6_ n7_ n8_ n9_ n10_; clear hb hbox hg; have Zpi := Zhh.out; have Zpj := Zhg.out; have Zpk := Zhj.out; have Zpm := Zhi.out; have Zpn : w108.cell? ⟨Zhc, 0, none⟩ = some (.int .i64 0) := (blk_cell Zhd.out 0).trans rfl; have Zpp : w108.cell? ⟨Zhc, 1, none⟩ = some (.int .i64 0) := (blk_cell Zhd.out 1).trans rfl; have Zpq : w108.cell? ⟨Zhc, 2, none⟩ = some (.int .i64 0) := (blk_cell Zhd.out 2).trans rfl; have Zpr : w108.cell? ⟨Zhc, 3, none⟩ = some (.int .i64 0) := (blk_cell Zhd.out 3).trans rfl; have Zps := blk_frozen Zhd.out 0; have Zpt := blk_frozen Zhd.out 1; have Zpu := blk_frozen Zhd.out 2; have Zpv := blk_frozen Zhd.out 3; have Zpw := Zt.out; have Zpx := Zs.out; have Zpy : w108.cell? ⟨Zn, 0, none⟩ = some (.int .i64 t319) := (blk_cell Zp.out 0).trans rfl; have Zpz : w108.cell? ⟨Zn, 1, none⟩ = some (.int .i64 t320) := (blk_cell Zp.out 1).trans rfl; have Zqa : w108.cell? ⟨Zn, 2, none⟩ = some (.int .i64 t321) := (blk_cell Zp.out 2).trans rfl; have Zqb : w108.cell? ⟨Zn, 3, none⟩ = some (.int .i64 t322) := (blk_cell Zp.out 3).trans rfl; have Zqc := blk_frozen Zp.out 0; have Zqd := blk_frozen Zp.out 1; have Zqe := blk_frozen Zp.out 2; have Zqf := blk_frozen Zp.out 3) | ((with_reducible refine gate_dst (N := 11) rfl ?_); (try (refine gate_guard (by rfl) ?_; dsimp only)); refine box_event ?hg (N := 11) ?hd (cs := #[.int .i64 0, .int .i64 0, .int .i64 0, .int .i64 0]) (t := 25) ?hr ?_; (case hd => rfl); (case hg => rfl); (case hr => first | (go_simp; done) | (go_simp; rfl)); intro Zii hg w114 hbox hb; have n0_ := mA (Kd.R_below (Kd.R_elderB (by (with_reducible repeat (first | apply Kd.R_alloc | apply Kd.R_drewN | apply Kd.R_drew)); exact (Kd.R_mono (Kd.R_far (p := ⟨Zhc, 3, none⟩) (Kd.R_far (p := ⟨Zhc, 2, none⟩) (Kd.R_far (p := ⟨Zhc, 1, none⟩) (Kd.R_far (p := ⟨Zhc, 0, none⟩) (Kd.R_mono HO_8.out (fun k_ hk => (⟨hk, hk.2⟩ : _ ∧ k_ ≠ Zhc))) (fun _ hk => hk.2) (.int .i64 ((rd_T25 l0 x72_4).f0))) (fun _ hk => hk.2) (.int .i64 ((rd_T25 l0 x72_4).f1))) (fun _ hk => hk.2) (.int .i64 ((rd_T25 l0 x72_4).f2))) (fun _ hk => hk.2) (.int .i64 ((rd_T25 l0 x72_4).f3))) (fun _ h_ => h_.1))) Zii (Nat.le_of_eq hg.symm)) hb); have n1_ := mA (blk_below (g := Za) (o := cQ25 t314 t315 t316 t317) (by (with_reducible repeat (first | refine blk_drewN ?_ _ | refine blk_drew ?_ | refine blk_alloc ?_ _)); refine far4 ?_ Zhg.out _ _ _ _; (with_reducible repeat (first | refine blk_drewN ?_ _ | refine blk_drew ?_ | refine blk_alloc ?_ _)); exact Zb.out) hb); have n2_ := mA (blk_below (g := Zn) (o := cQ25 t319 t320 t321 t322) (by (with_reducible repeat (first | refine blk_drewN ?_ _ | refine blk_drew ?_ | refine blk_alloc ?_ _)); refine far4 ?_ Zhi.out _ _ _ _; (with_reducible repeat (first | refine blk_drewN ?_ _ | refine blk_drew ?_ | refine blk_alloc ?_ _)); exact Zp.out) hb); have n3_ := mA (blk_below (g := Zhc) (o := cQ25 (((rd_T25 l0 x72_4).f0)) (((rd_T25 l0 x72_4).f1)) (((rd_T25 l0 x72_4).f2)) (((rd_T25 l0 x72_4).f3))) (by (with_reducible repeat (first | refine blk_drewN ?_ _ | refine blk_drew ?_ | refine blk_alloc ?_ _)); refine put4 (v0 := .int .i64 0) (v1 := .int .i64 0) (v2 := .int .i64 0) (v3 := .int .i64 0) ?_ _ _ _ _; (with_reducible repeat (first | refine blk_drewN ?_ _ | refine blk_drew ?_ | refine blk_alloc ?_ _)); exact Zhd.out) hb); have n4_ := mA (below_step (by repeat (first | (with_reducible first | exact HB.out | apply below_alloc | apply pw_below_drewN | apply below_drew1 | refine below_set ?_ Zd.out | refine below_set ?_ Zr.out | refine below_set ?_ Zhf.out) | exact HB.out)) hb); have n5_ := mA (hbox); have n6_ := mA ((by rw [hg]; exact (below_size (by repeat (first | (with_reducible first | exact HB.out | apply below_alloc | apply pw_below_drewN | apply below_drew1 | refine below_set ?_ Zd.out | refine below_set ?_ Zr.out | refine below_set ?_ Zhf.out) | exact HB.out))) : w.heap.size ≤ Zii)); have n7_ := mA ((by rw [hg]; exact (below_size (by repeat (first | (with_reducible first | exact HB.out | apply below_alloc | apply pw_below_drewN | apply below_drew1 | refine below_set ?_ Zd.out | refine below_set ?_ Zr.out | refine below_set ?_ Zhf.out) | exact HB.out))) : w.heap.size ≤ Zii)); have n8_ := mA ((by rw [hg]; exact Nat.ne_of_lt (blk_lt (g := Za) (o := cQ25 t314 t315 t316 t317) (by (with_reducible repeat (first | refine blk_drewN ?_ _ | refine blk_drew ?_ | refine blk_alloc ?_ _)); refine far4 ?_ Zhg.out _ _ _ _; (with_reducible repeat (first | refine blk_drewN ?_ _ | refine blk_drew ?_ | refine blk_alloc ?_ _)); exact Zb.out)) : Za ≠ Zii)); have n9_ := mA ((by rw [hg]; exact Nat.ne_of_gt (blk_lt (g := Za) (o := cQ25 t314 t315 t316 t317) (by (with_reducible repeat (first | refine blk_drewN ?_ _ | refine blk_drew ?_ | refine blk_alloc ?_ _)); refine far4 ?_ Zhg.out _ _ _ _; (with_reducible repeat (first | refine blk_drewN ?_ _ | refine blk_drew ?_ | refine blk_alloc ?_ _)); exact Zb.out)) : Zii ≠ Za)); have n10_ := mA ((by rw [hg]; exact Nat.ne_of_lt (blk_lt (g := Zn) (o := cQ25 t319 t320 t321 t322) (by (with_reducible repeat (first | refine blk_drewN ?_ _ | refine blk_drew ?_ | refine blk_alloc ?_ _)); refine far4 ?_ Zhi.out _ _ _ _; (with_reducible repeat (first | refine blk_drewN ?_ _ | refine blk_drew ?_ | refine blk_alloc ?_ _)); exact Zp.out)) : Zn ≠ Zii)); have n11_ := mA ((by rw [hg]; exact Nat.ne_of_gt (blk_lt (g := Zn) (o := cQ25 t319 t320 t321 t322) (by (with_reducible repeat (first | refine blk_drewN ?_ _ | refine blk_drew ?_ | refine blk_alloc ?_ _)); refine far4 ?_ Zhi.out _ _ _ _; (with_reducible repeat (first | refine blk_drewN ?_ _ | refine blk_drew ?_ | refine blk_alloc ?_ _)); exact Zp.out)) : Zii ≠ Zn)); have n12_ := mA ((by rw [hg]; exact Nat.ne_of_lt (blk_lt (g := Zhc) (o := cQ25 (((rd_T25 l0 x72_4).f0)) (((rd_T25 l0 x72_4).f1)) (((rd_T25 l0 x72_4).f2)) (((rd_T25 l0 x72_4).f3))) (by (with_reducible repeat (first | refine blk_drewN ?_ _ | refine blk_drew ?_ | refine blk_alloc ?_ _)); refine put4 (v0 := .int .i64 0) (v1 := .int .i64 0) (v2 := .int .i64 0) (v3 := .int .i64 0) ?_ _ _ _ _; (with_reducible repeat (first | refine blk_drewN ?_ _ | refine blk_drew ?_ | refine blk_alloc ?_ _)); exact Zhd.out)) : Zhc ≠ Zii)); have n13_ := mA ((by rw [hg]; exact Nat.ne_of_gt (blk_lt (g := Zhc) (o := cQ25 (((rd_T25 l0 x72_4).f0)) (((rd_T25 l0 x72_4).f1)) (((rd_T25 l0 x72_4).f2)) (((rd_T25 l0 x72_4).f3))) (by (with_reducible repeat (first | refine blk_drewN ?_ _ | refine blk_drew ?_ | refine blk_alloc ?_ _)); refine put4 (v0 := .int .i64 0) (v1 := .int .i64 0) (v2 := .int .i64 0) (v3 := .int .i64 0) ?_ _ _ _ _; (with_reducible repeat (first | refine blk_drewN ?_ _ | refine blk_drew ?_ | refine blk_alloc ?_ _)); exact Zhd.out)) : Zii ≠ Zhc)); clear HO_8; clear Zb; clear Zp; clear Zhd; clear HB; have HO_8 := n0_; have Zb := n1_; have Zp := n2_; have Zhd := n3_; have HB := n4_; have Zij := n5_; have Zik := n6_; have Zim := n7_; have Zin := n8_; have Zip := n9_; have Ziq := n10_; have Zir := n11_; have Zis := n12_; have Zit := n13_; clear n0_ n1_ n2_ n3_ n4_ n5_ n6_ n7_ n8_ n9_ n10_ n11_ n12_ n13_; clear hb hbox hg; have Zqg := Zip.out; have Zqh := Zin.out; have Zqi := Zir.out; have Zqj := Ziq.out; have Zqk := Zit.out; have Zqm := Zis.out; have Zqn : w114.cell? ⟨Zii, 0, none⟩ = some (.int .i64 0) := (blk_cell Zij.out 0).trans rfl; have Zqp : w114.cell? ⟨Zii, 1, none⟩ = some (.int .i64 0) := (blk_cell Zij.out 1).trans rfl; have Zqq : w114.cell? ⟨Zii, 2, none⟩ = some (.int .i64 0) := (blk_cell Zij.out 2).trans rfl; have Zqr : w114.cell? ⟨Zii, 3, none⟩ = some (.int .i64 0) := (blk_cell Zij.out 3).trans rfl; have hq0 := put8_0 (v0 := .int .i64 0) (v1 := .int .i64 0) (v2 := .int .i64 0) (v3 := .int .i64 0) Zij.out; have hq1 := put8_1 (v0 := .int .i64 0) (v1 := .int .i64 0) (v2 := .int .i64 0) (v3 := .int .i64 0) Zij.out; have hq2 := put8_2 (v0 := .int .i64 0) (v1 := .int .i64 0) (v2 := .int .i64 0) (v3 := .int .i64 0) Zij.out; have hq3 := put8_3 (v0 := .int .i64 0) (v1 := .int .i64 0) (v2 := .int .i64 0) (v3 := .int .i64 0) Zij.out; have Zqs := blk_frozen Zij.out 0; have Zqt := blk_frozen Zij.out 1; have Zqu := blk_frozen Zij.out 2; have Zqv := blk_frozen Zij.out 3; have p340 : 0 ≤ ((ji83) : Int) := of_decide_eq_true (by first | (with_reducible assumption) | assumption); have q340 : (ji83) < (l0.length : Int) := of_decide_eq_true (by first | (with_reducible assumption) | assumption); obtain ⟨ad340, e340, hx340_0, hx340_1, hx340_2, hx340_3⟩ := at_T25 HR0.out (ji83) p340 q340; obtain rfl : ad329 = ad340 := (by injection e340); have hn340_0 : ad329.block ≠ Zii := Nat.ne_of_lt (Nat.lt_of_lt_of_le (by have := World.block_lt_of_cell? _ _ hx340_0; first | rwa [add_block] at this | exact this) Zik.out); have hn340_1 : ad329.block ≠ Zii := Nat.ne_of_lt (Nat.lt_of_lt_of_le (by have := World.block_lt_of_cell? _ _ hx340_0; first | rwa [add_block] at this | exact this) Zik.out); have hn340_2 : ad329.block ≠ Zii := Nat.ne_of_lt (Nat.lt_of_lt_of_le (by have := World.block_lt_of_cell? _ _ hx340_0; first | rwa [add_block] at this | exact this) Zik.out); have hn340_3 : ad329.block ≠ Zii := Nat.ne_of_lt (Nat.lt_of_lt_of_le (by have := World.block_lt_of_cell? _ _ hx340_0; first | rwa [add_block] at this | exact this) Zik.out); replace hx340_0 := (HB.out.cell (World.block_lt_of_cell? w _ hx340_0)).trans hx340_0; replace hx340_1 := (HB.out.cell (World.block_lt_of_cell? w _ hx340_1)).trans hx340_1; replace hx340_2 := (HB.out.cell (World.block_lt_of_cell? w _ hx340_2)).trans hx340_2; replace hx340_3 := (HB.out.cell (World.block_lt_of_cell? w _ hx340_3)).trans hx340_3; replace hx340_0 := (cell_far (p := ⟨Zii, 0, none⟩) (by first | (rw [add_block]; exact hn340_0) | (show (Addr.add _ _).block ≠ _; rw [add_block]; exact hn340_0) | exact hn340_0) (.int .i64 t319)).trans hx340_0; replace hx340_1 := (cell_far (p := ⟨Zii, 0, none⟩) (by first | (rw [add_block]; exact hn340_0) | (show (Addr.add _ _).block ≠ _; rw [add_block]; exact hn340_0) | exact hn340_0) (.int .i64 t319)).trans hx340_1; replace hx340_2 := (cell_far (p := ⟨Zii, 0, none⟩) (by first | (rw [add_block]; exact hn340_0) | (show (Addr.add _ _).block ≠ _; rw [add_block]; exact hn340_0) | exact hn340_0) (.int .i64 t319)).trans hx340_2; replace hx340_3 := (cell_far (p := ⟨Zii, 0, none⟩) (by first | (rw [add_block]; exact hn340_0) | (show (Addr.add _ _).block ≠ _; rw [add_block]; exact hn340_0) | exact hn340_0) (.int .i64 t319)).trans hx340_3; replace hx340_0 := (cell_far (p := ⟨Zii, 1, none⟩) (by first | (rw [add_block]; exact hn340_1) | (show (Addr.add _ _).block ≠ _; rw [add_block]; exact hn340_1) | exact hn340_1) (.int .i64 t320)).trans hx340_0; replace hx340_1 := (cell_far (p := ⟨Zii, 1, none⟩) (by first | (rw [add_block]; exact hn340_1) | (show (Addr.add _ _).block ≠ _; rw [add_block]; exact hn340_1) | exact hn340_1) (.int .i64 t320)).trans hx340_1; replace hx340_2 := (cell_far (p := ⟨Zii, 1, none⟩) (by first | (rw [add_block]; exact hn340_1) | (show (Addr.add _ _).block ≠ _; rw [add_block]; exact hn340_1) | exact hn340_1) (.int .i64 t320)).trans hx340_2; replace hx340_3 := (cell_far (p := ⟨Zii, 1, none⟩) (by first | (rw [add_block]; exact hn340_1) | (show (Addr.add _ _).block ≠ _; rw [add_block]; exact hn340_1) | exact hn340_1) (.int .i64 t320)).trans hx340_3; replace hx340_0 := (cell_far (p := ⟨Zii, 2, none⟩) (by first | (rw [add_block]; exact hn340_2) | (show (Addr.add _ _).block ≠ _; rw [add_block]; exact hn340_2) | exact hn340_2) (.int .i64 t321)).trans hx340_0; replace hx340_1 := (cell_far (p := ⟨Zii, 2, none⟩) (by first | (rw [add_block]; exact hn340_2) | (show (Addr.add _ _).block ≠ _; rw [add_block]; exact hn340_2) | exact hn340_2) (.int .i64 t321)).trans hx340_1; replace hx340_2 := (cell_far (p := ⟨Zii, 2, none⟩) (by first | (rw [add_block]; exact hn340_2) | (show (Addr.add _ _).block ≠ _; rw [add_block]; exact hn340_2) | exact hn340_2) (.int .i64 t321)).trans hx340_2; replace hx340_3 := (cell_far (p := ⟨Zii, 2, none⟩) (by first | (rw [add_block]; exact hn340_2) | (show (Addr.add _ _).block ≠ _; rw [add_block]; exact hn340_2) | exact hn340_2) (.int .i64 t321)).trans hx340_3; replace hx340_0 := (cell_far (p := ⟨Zii, 3, none⟩) (by first | (rw [add_block]; exact hn340_3) | (show (Addr.add _ _).block ≠ _; rw [add_block]; exact hn340_3) | exact hn340_3) (.int .i64 t322)).trans hx340_0; replace hx340_1 := (cell_far (p := ⟨Zii, 3, none⟩) (by first | (rw [add_block]; exact hn340_3) | (show (Addr.add _ _).block ≠ _; rw [add_block]; exact hn340_3) | exact hn340_3) (.int .i64 t322)).trans hx340_1; replace hx340_2 := (cell_far (p := ⟨Zii, 3, none⟩) (by first | (rw [add_block]; exact hn340_3) | (show (Addr.add _ _).block ≠ _; rw [add_block]; exact hn340_3) | exact hn340_3) (.int .i64 t322)).trans hx340_2; replace hx340_3 := (cell_far (p := ⟨Zii, 3, none⟩) (by first | (rw [add_block]; exact hn340_3) | (show (Addr.add _ _).block ≠ _; rw [add_block]; exact hn340_3) | exact hn340_3) (.int .i64 t322)).trans hx340_3; clear hn340_0; clear hn340_1; clear hn340_2; clear hn340_3; replace p340 := eq_true p340; replace q340 := eq_true q340; have Zqw : w114.cell? ⟨Zhc, 0, none⟩ = some (.int .i64 ((rd_T25 l0 x72_4).f0)) := (blk_cell Zhd.out 0).trans rfl; have Zqx : w114.cell? ⟨Zhc, 1, none⟩ = some (.int .i64 ((rd_T25 l0 x72_4).f1)) := (blk_cell Zhd.out 1).trans rfl; have Zqy : w114.cell? ⟨Zhc, 2, none⟩ = some (.int .i64 ((rd_T25 l0 x72_4).f2)) := (blk_cell Zhd.out 2).trans rfl; have Zqz : w114.cell? ⟨Zhc, 3, none⟩ = some (.int .i64 ((rd_T25 l0 x72_4).f3)) := (blk_cell Zhd.out 3).trans rfl; have Zra := blk_frozen Zhd.out 0; have Zrb := blk_frozen Zhd.out 1; have Zrc := blk_frozen Zhd.out 2; have Zrd := blk_frozen Zhd.out 3) | ((with_reducible refine gate_callee (f := 51) rfl ?_); refine goesL_ (some 91) rfl rfl Try.func51 (by kernel_rfl) rfl #[.agg #[.int .i64 ((rd_T25 l0 (ji83)).f0), .int .i64 ((rd_T25 l0 (ji83)).f1), .int .i64 ((rd_T25 l0 (ji83)).f2), .int .i64 ((rd_T25 l0 (ji83)).f3)], .agg #[.int .i64 ((rd_T25 l0 x72_4).f0), .int .i64 ((rd_T25 l0 x72_4).f1), .int .i64 ((rd_T25 l0 x72_4).f2), .int .i64 ((rd_T25 l0 x72_4).f3)]] rfl (by (try simp only [List.map_toArray, List.map_cons, List.map_nil]); first | done | (simp only [hji83]; rfl) | rfl | (simp only [List.length_drop, List.length_take]; rfl)) ?_; (with_reducible refine (impl_minus.calls k4 ((rd_T25 l0 (ji83)).f0) ((rd_T25 l0 (ji83)).f1) ((rd_T25 l0 (ji83)).f2) ((rd_T25 l0 (ji83)).f3) ((rd_T25 l0 x72_4).f0) ((rd_T25 l0 x72_4).f1) ((rd_T25 l0 x72_4).f2) ((rd_T25 l0 x72_4).f3) t341 t342 t343 t344 false _ A85.out).mono ?_); rintro e w120 ⟨rfl, hb⟩; refine ⟨_, rfl, ?_⟩; have n0_ := mA (Kd.R_below (by (with_reducible repeat (first | apply Kd.R_alloc | apply Kd.R_drewN | apply Kd.R_drew)); exact (Kd.R_mono (Kd.R_far (p := ⟨Zii, 3, none⟩) (Kd.R_far (p := ⟨Zii, 2, none⟩) (Kd.R_far (p := ⟨Zii, 1, none⟩) (Kd.R_far (p := ⟨Zii, 0, none⟩) (Kd.R_far (p := ⟨Zii, 3, none⟩) (Kd.R_far (p := ⟨Zii, 2, none⟩) (Kd.R_far (p := ⟨Zii, 1, none⟩) (Kd.R_far (p := ⟨Zii, 0, none⟩) (Kd.R_mono HO_8.out (fun k_ hk => (⟨hk, hk.2⟩ : _ ∧ k_ ≠ Zii))) (fun _ hk => hk.2) (.int .i64 t319)) (fun _ hk => hk.2) (.int .i64 t320)) (fun _ hk => hk.2) (.int .i64 t321)) (fun _ hk => hk.2) (.int .i64 t322)) (fun _ hk => hk.2) (.int .i64 ((rd_T25 l0 (ji83)).f0))) (fun _ hk => hk.2) (.int .i64 ((rd_T25 l0 (ji83)).f1))) (fun _ hk => hk.2) (.int .i64 ((rd_T25 l0 (ji83)).f2))) (fun _ hk => hk.2) (.int .i64 ((rd_T25 l0 (ji83)).f3))) (fun _ h_ => h_.1))) hb); have n1_ := mA (blk_below (g := Za) (o := cQ25 t314 t315 t316 t317) (by (with_reducible repeat (first | refine blk_drewN ?_ _ | refine blk_drew ?_ | refine blk_alloc ?_ _)); refine far4 ?_ Zin.out _ _ _ _; (with_reducible repeat (first | refine blk_drewN ?_ _ | refine blk_drew ?_ | refine blk_alloc ?_ _)); refine far4 ?_ Zin.out _ _ _ _; (with_reducible repeat (first | refine blk_drewN ?_ _ | refine blk_drew ?_ | refine blk_alloc ?_ _)); exact Zb.out) hb); have n2_ := mA (blk_below (g := Zn) (o := cQ25 t319 t320 t321 t322) (by (with_reducible repeat (first | refine blk_drewN ?_ _ | refine blk_drew ?_ | refine blk_alloc ?_ _)); refine far4 ?_ Ziq.out _ _ _ _; (with_reducible repeat (first | refine blk_drewN ?_ _ | refine blk_drew ?_ | refine blk_alloc ?_ _)); refine far4 ?_ Ziq.out _ _ _ _; (with_reducible repeat (first | refine blk_drewN ?_ _ | refine blk_drew ?_ | refine blk_alloc ?_ _)); exact Zp.out) hb); have n3_ := mA (blk_below (g := Zhc) (o := cQ25 (((rd_T25 l0 x72_4).f0)) (((rd_T25 l0 x72_4).f1)) (((rd_T25 l0 x72_4).f2)) (((rd_T25 l0 x72_4).f3))) (by (with_reducible repeat (first | refine blk_drewN ?_ _ | refine blk_drew ?_ | refine blk_alloc ?_ _)); refine far4 ?_ Zis.out _ _ _ _; (with_reducible repeat (first | refine blk_drewN ?_ _ | refine blk_drew ?_ | refine blk_alloc ?_ _)); refine far4 ?_ Zis.out _ _ _ _; (with_reducible repeat (first | refine blk_drewN ?_ _ | refine blk_drew ?_ | refine blk_alloc ?_ _)); exact Zhd.out) hb); have n4_ := mA (blk_below (g := Zii) (o := cQ25 (((rd_T25 l0 (ji83)).f0)) (((rd_T25 l0 (ji83)).f1)) (((rd_T25 l0 (ji83)).f2)) (((rd_T25 l0 (ji83)).f3))) (by (with_reducible repeat (first | refine blk_drewN ?_ _ | refine blk_drew ?_ | refine blk_alloc ?_ _)); refine put4 (v0 := .int .i64 t319) (v1 := .int .i64 t320) (v2 := .int .i64 t321) (v3 := .int .i64 t322) ?_ _ _ _ _; (with_reducible repeat (first | refine blk_drewN ?_ _ | refine blk_drew ?_ | refine blk_alloc ?_ _)); refine put4 (v0 := .int .i64 0) (v1 := .int .i64 0) (v2 := .int .i64 0) (v3 := .int .i64 0) ?_ _ _ _ _; (with_reducible repeat (first | refine blk_drewN ?_ _ | refine blk_drew ?_ | refine blk_alloc ?_ _)); exact Zij.out) hb); have n5_ := mA (below_step (by repeat (first | (with_reducible first | exact HB.out | apply below_alloc | apply pw_below_drewN | apply below_drew1 | refine below_set ?_ Zd.out | refine below_set ?_ Zr.out | refine below_set ?_ Zhf.out | refine below_set ?_ Zim.out) | exact HB.out)) hb); clear HO_8; clear Zb; clear Zp; clear Zhd; clear Zij; clear HB; have HO_8 := n0_; have Zb := n1_; have Zp := n2_; have Zhd := n3_; have Zij := n4_; have HB := n5_; clear n0_ n1_ n2_ n3_ n4_ n5_; (try clear hb); (try clear hb2); (try clear hk); (try clear hi)) | ((with_reducible refine gate_dst (N := 12) rfl ?_); (try (refine gate_guard (by rfl) ?_; dsimp only)); refine box_event ?hg (N := 12) ?hd (cs := #[.int .i64 0, .int .i64 0, .int .i64 0, .int .i64 0]) (t := 25) ?hr ?_; (case hd => rfl); (case hg => rfl); (case hr => first | (go_simp; done) | (go_simp; rfl)); intro Zre hg w121 hbox hb; have n0_ := mA (Kd.R_below (Kd.R_elderB (by (with_reducible repeat (first | apply Kd.R_alloc | apply Kd.R_drewN | apply Kd.R_drew)); exact HO_8.out) Zre (Nat.le_of_eq hg.symm)) hb); have n1_ := mA (blk_below (g := Za) (o := cQ25 t314 t315 t316 t317) Zb.out hb); have n2_ := mA (blk_below (g := Zn) (o := cQ25 t319 t320 t321 t322) Zp.out hb); have n3_ := mA (blk_below (g := Zhc) (o := cQ25 (((rd_T25 l0 x72_4).f0)) (((rd_T25 l0 x72_4).f1)) (((rd_T25 l0 x72_4).f2)) (((rd_T25 l0 x72_4).f3))) Zhd.out hb); have n4_ := mA (blk_below (g := Zii) (o := cQ25 (((rd_T25 l0 (ji83)).f0)) (((rd_T25 l0 (ji83)).f1)) (((rd_T25 l0 (ji83)).f2)) (((rd_T25 l0 (ji83)).f3))) Zij.out hb); have n5_ := mA (below_step (by repeat (first | (with_reducible first | exact HB.out | apply below_alloc | apply pw_below_drewN | apply below_drew1 | refine below_set ?_ Zd.out | refine below_set ?_ Zr.out | refine below_set ?_ Zhf.out | refine below_set ?_ Zim.out) | exact HB.out)) hb); have n6_ := mA (hbox); have n7_ := mA ((by rw [hg]; exact (below_size (by repeat (first | (with_reducible first | exact HB.out | apply below_alloc | apply pw_below_drewN | apply below_drew1 | refine below_set ?_ Zd.out | refine below_set ?_ Zr.out | refine below_set ?_ Zhf.out | refine below_set ?_ Zim.out) | exact HB.out))) : w.heap.size ≤ Zre)); have n8_ := mA ((by rw [hg]; exact (below_size (by repeat (first | (with_reducible first | exact HB.out | apply below_alloc | apply pw_below_drewN | apply below_drew1 | refine below_set ?_ Zd.out | refine below_set ?_ Zr.out | refine below_set ?_ Zhf.out | refine below_set ?_ Zim.out) | exact HB.out))) : w.heap.size ≤ Zre)); have n9_ := mA ((by rw [hg]; exact Nat.ne_of_lt (blk_lt (g := Za) (o := cQ25 t314 t315 t316 t317) Zb.out) : Za ≠ Zre)); have n10_ := mA ((by rw [hg]; exact Nat.ne_of_gt (blk_lt (g := Za) (o := cQ25 t314 t315 t316 t317) Zb.out) : Zre ≠ Za)); have n11_ := mA ((by rw [hg]; exact Nat.ne_of_lt (blk_lt (g := Zn) (o := cQ25 t319 t320 t321 t322) Zp.out) : Zn ≠ Zre)); have n12_ := mA ((by rw [hg]; exact Nat.ne_of_gt (blk_lt (g := Zn) (o := cQ25 t319 t320 t321 t322) Zp.out) : Zre ≠ Zn)); have n13_ := mA ((by rw [hg]; exact Nat.ne_of_lt (blk_lt (g := Zhc) (o := cQ25 (((rd_T25 l0 x72_4).f0)) (((rd_T25 l0 x72_4).f1)) (((rd_T25 l0 x72_4).f2)) (((rd_T25 l0 x72_4).f3))) Zhd.out) : Zhc ≠ Zre)); have n14_ := mA ((by rw [hg]; exact Nat.ne_of_gt (blk_lt (g := Zhc) (o := cQ25 (((rd_T25 l0 x72_4).f0)) (((rd_T25 l0 x72_4).f1)) (((rd_T25 l0 x72_4).f2)) (((rd_T25 l0 x72_4).f3))) Zhd.out) : Zre ≠ Zhc)); have n15_ := mA ((by rw [hg]; exact Nat.ne_of_lt (blk_lt (g := Zii) (o := cQ25 (((rd_T25 l0 (ji83)).f0)) (((rd_T25 l0 (ji83)).f1)) (((rd_T25 l0 (ji83)).f2)) (((rd_T25 l0 (ji83)).f3))) Zij.out) : Zii ≠ Zre)); have n16_ := mA ((by rw [hg]; exact Nat.ne_of_gt (blk_lt (g := Zii) (o := cQ25 (((rd_T25 l0 (ji83)).f0)) (((rd_T25 l0 (ji83)).f1)) (((rd_T25 l0 (ji83)).f2)) (((rd_T25 l0 (ji83)).f3))) Zij.out) : Zre ≠ Zii)); clear HO_8; clear Zb; clear Zp; clear Zhd; clear Zij; clear HB; have HO_8 := n0_; have Zb := n1_; have Zp := n2_; have Zhd := n3_; have Zij := n4_; have HB := n5_; have Zrf := n6_; have Zrg := n7_; have Zrh := n8_; have Zri := n9_; have Zrj := n10_; have Zrk := n11_; have Zrm := n12_; have Zrn := n13_; have Zrp := n14_; have Zrq := n15_; have Zrr := n16_; clear n0_ n1_ n2_ n3_ n4_ n5_ n6_ n7_ n8_ n9_ n10_ n11_ n12_ n13_ n14_ n15_ n16_; clear hb hbox hg; have Zrs := Zrj.out; have Zrt := Zri.out; have Zru := Zrm.out; have Zrv := Zrk.out; have Zrw := Zrp.out; have Zrx := Zrn.out; have Zry := Zrr.out; have Zrz := Zrq.out; have Zsa : w121.cell? ⟨Zre, 0, none⟩ = some (.int .i64 0) := (blk_cell Zrf.out 0).trans rfl; have Zsb : w121.cell? ⟨Zre, 1, none⟩ = some (.int .i64 0) := (blk_cell Zrf.out 1).trans rfl; have Zsc : w121.cell? ⟨Zre, 2, none⟩ = some (.int .i64 0) := (blk_cell Zrf.out 2).trans rfl; have Zsd : w121.cell? ⟨Zre, 3, none⟩ = some (.int .i64 0) := (blk_cell Zrf.out 3).trans rfl; have Zse := blk_frozen Zrf.out 0; have Zsf := blk_frozen Zrf.out 1; have Zsg := blk_frozen Zrf.out 2; have Zsh := blk_frozen Zrf.out 3))
  go_ret
  exact ⟨_, by first | rfl | (simp [errW_none, errW_some] <;> rfl) | (simp only [← hji83]; first | rfl | (simp [errW_none, errW_some] <;> rfl)) | (simp [*, errW_none, errW_some] <;> rfl), by first | exact Kd.R_nil _ _ _ _ _ | exact Kd.N_nil _ _ _ _ _ | exact Kd.V_nil _ _ _ _ _ | exact Kd.Q_nil _ _ _ _ _ | exact Kd.S_nil _ _ _ _ _, by repeat (first | (with_reducible first | exact HB.out | apply below_alloc | apply pw_below_drewN | apply below_drew1 | refine below_set ?_ Zd.out | refine below_set ?_ Zr.out | refine below_set ?_ Zhf.out | refine below_set ?_ Zim.out | refine below_set ?_ Zrh.out) | exact HB.out)⟩
 subst c86
 have H1 : (if x8_4.length < 4398046511104 then (impl_StepsOf.l2 k4 l0 (x8_4 ++ [(⟨t341, t342, t343, t344⟩ : S25)]) l0 (l0.length : Int) ji83 t319 t320 t321 t322) else (none)) = some r := by rw [if_pos rfl] at H; exact H
 clear H
 have H := H1
 clear H1
 by_cases c87 : x8_4.length < 4398046511104
 case neg =>
  rw [if_neg c87] at H
  exact absurd H (by simp)
 rw [if_pos c87] at H
 have LMc87 := mA c87
 clear c87
 obtain ⟨y347, hy347⟩ : ∃ y_ : List (S25), y_ = (x8_4 ++ [(⟨t341, t342, t343, t344⟩ : S25)]) := ⟨_, rfl⟩
 replace H : (impl_StepsOf.l2 k4 l0 y347 l0 (l0.length : Int) ji83 t319 t320 t321 t322) = some r := by first | (rw [hy347]; with_reducible exact H) | (have H2_ := (Option.bind_some _ _).symm.trans H; rw [hy347]; with_reducible exact H2_) | (have H2_ := (Option.bind_some _ _).symm.trans H; with_reducible exact H2_) | with_reducible exact H | (rw [hy347]; exact H) | exact H
 have Ny347 := mA hy347
 clear hy347
 have H' := mA H
 clear H
 have p337 : 0 ≤ (x72_4 : Int) := of_decide_eq_true (by first | (with_reducible assumption) | assumption)
 have q337 : x72_4 < (l0.length : Int) := of_decide_eq_true (by first | (with_reducible assumption) | assumption)
 obtain ⟨ad337, e337, hx337_0, hx337_1, hx337_2, hx337_3⟩ := at_T25 HR0.out x72_4 p337 q337
 obtain rfl : ad329 = ad337 := (by injection e337)
 replace hx337_0 := (HB.out.cell (World.block_lt_of_cell? w _ hx337_0)).trans hx337_0
 replace hx337_1 := (HB.out.cell (World.block_lt_of_cell? w _ hx337_1)).trans hx337_1
 replace hx337_2 := (HB.out.cell (World.block_lt_of_cell? w _ hx337_2)).trans hx337_2
 replace hx337_3 := (HB.out.cell (World.block_lt_of_cell? w _ hx337_3)).trans hx337_3
 replace p337 := eq_true p337
 replace q337 := eq_true q337
 go_wp2_with (first | ((with_reducible refine gate_dst (N := 10) rfl ?_); (try (refine gate_guard (by rfl) ?_; dsimp only)); refine box_event ?hg (N := 10) ?hd (cs := #[.int .i64 0, .int .i64 0, .int .i64 0, .int .i64 0]) (t := 25) ?hr ?_; (case hd => rfl); (case hg => rfl); (case hr => first | (go_simp; done) | (go_simp; rfl)); intro Zhc hg w88 hbox hb; have n0_ := mA (Kd.R_below (Kd.R_elderB (by (with_reducible repeat (first | apply Kd.R_alloc | apply Kd.R_drewN | apply Kd.R_drew)); exact HO_8.out) Zhc (Nat.le_of_eq hg.symm)) hb); have n1_ := mA (blk_below (g := Za) (o := cQ25 t314 t315 t316 t317) Zb.out hb); have n2_ := mA (blk_below (g := Zn) (o := cQ25 t319 t320 t321 t322) Zp.out hb); have n3_ := mA (below_step (by repeat (first | (with_reducible first | exact HB.out | apply below_alloc | apply pw_below_drewN | apply below_drew1 | refine below_set ?_ Zd.out | refine below_set ?_ Zr.out) | exact HB.out)) hb); have n4_ := mA (hbox); have n5_ := mA ((by rw [hg]; exact (below_size (by repeat (first | (with_reducible first | exact HB.out | apply below_alloc | apply pw_below_drewN | apply below_drew1 | refine below_set ?_ Zd.out | refine below_set ?_ Zr.out) | exact HB.out))) : w.heap.size ≤ Zhc)); have n6_ := mA ((by rw [hg]; exact (below_size (by repeat (first | (with_reducible first | exact HB.out | apply below_alloc | apply pw_below_drewN | apply below_drew1 | refine below_set ?_ Zd.out | refine below_set ?_ Zr.out) | exact HB.out))) : w.heap.size ≤ Zhc)); have n7_ := mA ((by rw [hg]; exact Nat.ne_of_lt (blk_lt (g := Za) (o := cQ25 t314 t315 t316 t317) Zb.out) : Za ≠ Zhc)); have n8_ := mA ((by rw [hg]; exact Nat.ne_of_gt (blk_lt (g := Za) (o := cQ25 t314 t315 t316 t317) Zb.out) : Zhc ≠ Za)); have n9_ := mA ((by rw [hg]; exact Nat.ne_of_lt (blk_lt (g := Zn) (o := cQ25 t319 t320 t321 t322) Zp.out) : Zn ≠ Zhc)); have n10_ := mA ((by rw [hg]; exact Nat.ne_of_gt (blk_lt (g := Zn) (o := cQ25 t319 t320 t321 t322) Zp.out) : Zhc ≠ Zn)); clear HO_8; clear Zb; clear Zp; clear HB; have HO_8 := n0_; have Zb := n1_; have Zp := n2_; have HB := n3_; have Zhd := n4_; have Zhe := n5_; have Zhf := n6_; have Zhg := n7_; have Zhh := n8_; have Zhi := n9_; have Zhj := n10_; clear n0_ n1_ n2_ n3_ n4_ n5_ n6_ n7_ n8_ n9_ n10_; clear hb hbox hg; have Zsi := Zhh.out; have Zsj := Zhg.out; have Zsk := Zhj.out; have Zsm := Zhi.out; have Zsn : w88.cell? ⟨Zhc, 0, none⟩ = some (.int .i64 0) := (blk_cell Zhd.out 0).trans rfl; have Zsp : w88.cell? ⟨Zhc, 1, none⟩ = some (.int .i64 0) := (blk_cell Zhd.out 1).trans rfl; have Zsq : w88.cell? ⟨Zhc, 2, none⟩ = some (.int .i64 0) := (blk_cell Zhd.out 2).trans rfl; have Zsr : w88.cell? ⟨Zhc, 3, none⟩ = some (.int .i64 0) := (blk_cell Zhd.out 3).trans rfl; have Zss := blk_frozen Zhd.out 0; have Zst := blk_frozen Zhd.out 1; have Zsu := blk_frozen Zhd.out 2; have Zsv := blk_frozen Zhd.out 3; have Zsw := Zt.out; have Zsx := Zs.out; have Zsy : w88.cell? ⟨Zn, 0, none⟩ = some (.int .i64 t319) := (blk_cell Zp.out 0).trans rfl; have Zsz : w88.cell? ⟨Zn, 1, none⟩ = some (.int .i64 t320) := (blk_cell Zp.out 1).trans rfl; have Zta : w88.cell? ⟨Zn, 2, none⟩ = some (.int .i64 t321) := (blk_cell Zp.out 2).trans rfl; have Ztb : w88.cell? ⟨Zn, 3, none⟩ = some (.int .i64 t322) := (blk_cell Zp.out 3).trans rfl; have Ztc := blk_frozen Zp.out 0; have Ztd := blk_frozen Zp.out 1; have Zte := blk_frozen Zp.out 2; have Ztf := blk_frozen Zp.out 3) | ((with_reducible refine gate_dst (N := 11) rfl ?_); (try (refine gate_guard (by rfl) ?_; dsimp only)); refine box_event ?hg (N := 11) ?hd (cs := #[.int .i64 0, .int .i64 0, .int .i64 0, .int .i64 0]) (t := 25) ?hr ?_; (case hd => rfl); (case hg => rfl); (case hr => first | (go_simp; done) | (go_simp; rfl)); intro Zii hg w94 hbox hb; have n0_ := mA (Kd.R_below (Kd.R_elderB (by (with_reducible repeat (first | apply Kd.R_alloc | apply Kd.R_drewN | apply Kd.R_drew)); exact (Kd.R_mono (Kd.R_far (p := ⟨Zhc, 3, none⟩) (Kd.R_far (p := ⟨Zhc, 2, none⟩) (Kd.R_far (p := ⟨Zhc, 1, none⟩) (Kd.R_far (p := ⟨Zhc, 0, none⟩) (Kd.R_mono HO_8.out (fun k_ hk => (⟨hk, hk.2⟩ : _ ∧ k_ ≠ Zhc))) (fun _ hk => hk.2) (.int .i64 ((rd_T25 l0 x72_4).f0))) (fun _ hk => hk.2) (.int .i64 ((rd_T25 l0 x72_4).f1))) (fun _ hk => hk.2) (.int .i64 ((rd_T25 l0 x72_4).f2))) (fun _ hk => hk.2) (.int .i64 ((rd_T25 l0 x72_4).f3))) (fun _ h_ => h_.1))) Zii (Nat.le_of_eq hg.symm)) hb); have n1_ := mA (blk_below (g := Za) (o := cQ25 t314 t315 t316 t317) (by (with_reducible repeat (first | refine blk_drewN ?_ _ | refine blk_drew ?_ | refine blk_alloc ?_ _)); refine far4 ?_ Zhg.out _ _ _ _; (with_reducible repeat (first | refine blk_drewN ?_ _ | refine blk_drew ?_ | refine blk_alloc ?_ _)); exact Zb.out) hb); have n2_ := mA (blk_below (g := Zn) (o := cQ25 t319 t320 t321 t322) (by (with_reducible repeat (first | refine blk_drewN ?_ _ | refine blk_drew ?_ | refine blk_alloc ?_ _)); refine far4 ?_ Zhi.out _ _ _ _; (with_reducible repeat (first | refine blk_drewN ?_ _ | refine blk_drew ?_ | refine blk_alloc ?_ _)); exact Zp.out) hb); have n3_ := mA (blk_below (g := Zhc) (o := cQ25 (((rd_T25 l0 x72_4).f0)) (((rd_T25 l0 x72_4).f1)) (((rd_T25 l0 x72_4).f2)) (((rd_T25 l0 x72_4).f3))) (by (with_reducible repeat (first | refine blk_drewN ?_ _ | refine blk_drew ?_ | refine blk_alloc ?_ _)); refine put4 (v0 := .int .i64 0) (v1 := .int .i64 0) (v2 := .int .i64 0) (v3 := .int .i64 0) ?_ _ _ _ _; (with_reducible repeat (first | refine blk_drewN ?_ _ | refine blk_drew ?_ | refine blk_alloc ?_ _)); exact Zhd.out) hb); have n4_ := mA (below_step (by repeat (first | (with_reducible first | exact HB.out | apply below_alloc | apply pw_below_drewN | apply below_drew1 | refine below_set ?_ Zd.out | refine below_set ?_ Zr.out | refine below_set ?_ Zhf.out) | exact HB.out)) hb); have n5_ := mA (hbox); have n6_ := mA ((by rw [hg]; exact (below_size (by repeat (first | (with_reducible first | exact HB.out | apply below_alloc | apply pw_below_drewN | apply below_drew1 | refine below_set ?_ Zd.out | refine below_set ?_ Zr.out | refine below_set ?_ Zhf.out) | exact HB.out))) : w.heap.size ≤ Zii)); have n7_ := mA ((by rw [hg]; exact (below_size (by repeat (first | (with_reducible first | exact HB.out | apply below_alloc | apply pw_below_drewN | apply below_drew1 | refine below_set ?_ Zd.out | refine below_set ?_ Zr.out | refine below_set ?_ Zhf.out) | exact HB.out))) : w.heap.size ≤ Zii)); have n8_ := mA ((by rw [hg]; exact Nat.ne_of_lt (blk_lt (g := Za) (o := cQ25 t314 t315 t316 t317) (by (with_reducible repeat (first | refine blk_drewN ?_ _ | refine blk_drew ?_ | refine blk_alloc ?_ _)); refine far4 ?_ Zhg.out _ _ _ _; (with_reducible repeat (first | refine blk_drewN ?_ _ | refine blk_drew ?_ | refine blk_alloc ?_ _)); exact Zb.out)) : Za ≠ Zii)); have n9_ := mA ((by rw [hg]; exact Nat.ne_of_gt (blk_lt (g := Za) (o := cQ25 t314 t315 t316 t317) (by (with_reducible repeat (first | refine blk_drewN ?_ _ | refine blk_drew ?_ | refine blk_alloc ?_ _)); refine far4 ?_ Zhg.out _ _ _ _; (with_reducible repeat (first | refine blk_drewN ?_ _ | refine blk_drew ?_ | refine blk_alloc ?_ _)); exact Zb.out)) : Zii ≠ Za)); have n10_ := mA ((by rw [hg]; exact Nat.ne_of_lt (blk_lt (g := Zn) (o := cQ25 t319 t320 t321 t322) (by (with_reducible repeat (first | refine blk_drewN ?_ _ | refine blk_drew ?_ | refine blk_alloc ?_ _)); refine far4 ?_ Zhi.out _ _ _ _; (with_reducible repeat (first | refine blk_drewN ?_ _ | refine blk_drew ?_ | refine blk_alloc ?_ _)); exact Zp.out)) : Zn ≠ Zii)); have n11_ := mA ((by rw [hg]; exact Nat.ne_of_gt (blk_lt (g := Zn) (o := cQ25 t319 t320 t321 t322) (by (with_reducible repeat (first | refine blk_drewN ?_ _ | refine blk_drew ?_ | refine blk_alloc ?_ _)); refine far4 ?_ Zhi.out _ _ _ _; (with_reducible repeat (first | refine blk_drewN ?_ _ | refine blk_drew ?_ | refine blk_alloc ?_ _)); exact Zp.out)) : Zii ≠ Zn)); have n12_ := mA ((by rw [hg]; exact Nat.ne_of_lt (blk_lt (g := Zhc) (o := cQ25 (((rd_T25 l0 x72_4).f0)) (((rd_T25 l0 x72_4).f1)) (((rd_T25 l0 x72_4).f2)) (((rd_T25 l0 x72_4).f3))) (by (with_reducible repeat (first | refine blk_drewN ?_ _ | refine blk_drew ?_ | refine blk_alloc ?_ _)); refine put4 (v0 := .int .i64 0) (v1 := .int .i64 0) (v2 := .int .i64 0) (v3 := .int .i64 0) ?_ _ _ _ _; (with_reducible repeat (first | refine blk_drewN ?_ _ | refine blk_drew ?_ | refine blk_alloc ?_ _)); exact Zhd.out)) : Zhc ≠ Zii)); have n13_ := mA ((by rw [hg]; exact Nat.ne_of_gt (blk_lt (g := Zhc) (o := cQ25 (((rd_T25 l0 x72_4).f0)) (((rd_T25 l0 x72_4).f1)) (((rd_T25 l0 x72_4).f2)) (((rd_T25 l0 x72_4).f3))) (by (with_reducible repeat (first | refine blk_drewN ?_ _ | refine blk_drew ?_ | refine blk_alloc ?_ _)); refine put4 (v0 := .int .i64 0) (v1 := .int .i64 0) (v2 := .int .i64 0) (v3 := .int .i64 0) ?_ _ _ _ _; (with_reducible repeat (first | refine blk_drewN ?_ _ | refine blk_drew ?_ | refine blk_alloc ?_ _)); exact Zhd.out)) : Zii ≠ Zhc)); clear HO_8; clear Zb; clear Zp; clear Zhd; clear HB; have HO_8 := n0_; have Zb := n1_; have Zp := n2_; have Zhd := n3_; have HB := n4_; have Zij := n5_; have Zik := n6_; have Zim := n7_; have Zin := n8_; have Zip := n9_; have Ziq := n10_; have Zir := n11_; have Zis := n12_; have Zit := n13_; clear n0_ n1_ n2_ n3_ n4_ n5_ n6_ n7_ n8_ n9_ n10_ n11_ n12_ n13_; clear hb hbox hg; have Ztg := Zip.out; have Zth := Zin.out; have Zti := Zir.out; have Ztj := Ziq.out; have Ztk := Zit.out; have Ztm := Zis.out; have Ztn : w94.cell? ⟨Zii, 0, none⟩ = some (.int .i64 0) := (blk_cell Zij.out 0).trans rfl; have Ztp : w94.cell? ⟨Zii, 1, none⟩ = some (.int .i64 0) := (blk_cell Zij.out 1).trans rfl; have Ztq : w94.cell? ⟨Zii, 2, none⟩ = some (.int .i64 0) := (blk_cell Zij.out 2).trans rfl; have Ztr : w94.cell? ⟨Zii, 3, none⟩ = some (.int .i64 0) := (blk_cell Zij.out 3).trans rfl; have hq0 := put8_0 (v0 := .int .i64 0) (v1 := .int .i64 0) (v2 := .int .i64 0) (v3 := .int .i64 0) Zij.out; have hq1 := put8_1 (v0 := .int .i64 0) (v1 := .int .i64 0) (v2 := .int .i64 0) (v3 := .int .i64 0) Zij.out; have hq2 := put8_2 (v0 := .int .i64 0) (v1 := .int .i64 0) (v2 := .int .i64 0) (v3 := .int .i64 0) Zij.out; have hq3 := put8_3 (v0 := .int .i64 0) (v1 := .int .i64 0) (v2 := .int .i64 0) (v3 := .int .i64 0) Zij.out; have Zts := blk_frozen Zij.out 0; have Ztt := blk_frozen Zij.out 1; have Ztu := blk_frozen Zij.out 2; have Ztv := blk_frozen Zij.out 3; have p340 : 0 ≤ ((ji83) : Int) := of_decide_eq_true (by first | (with_reducible assumption) | assumption); have q340 : (ji83) < (l0.length : Int) := of_decide_eq_true (by first | (with_reducible assumption) | assumption); obtain ⟨ad340, e340, hx340_0, hx340_1, hx340_2, hx340_3⟩ := at_T25 HR0.out (ji83) p340 q340; obtain rfl : ad329 = ad340 := (by injection e340); have hn340_0 : ad329.block ≠ Zii := Nat.ne_of_lt (Nat.lt_of_lt_of_le (by have := World.block_lt_of_cell? _ _ hx340_0; first | rwa [add_block] at this | exact this) Zik.out); have hn340_1 : ad329.block ≠ Zii := Nat.ne_of_lt (Nat.lt_of_lt_of_le (by have := World.block_lt_of_cell? _ _ hx340_0; first | rwa [add_block] at this | exact this) Zik.out); have hn340_2 : ad329.block ≠ Zii := Nat.ne_of_lt (Nat.lt_of_lt_of_le (by have := World.block_lt_of_cell? _ _ hx340_0; first | rwa [add_block] at this | exact this) Zik.out); have hn340_3 : ad329.block ≠ Zii := Nat.ne_of_lt (Nat.lt_of_lt_of_le (by have := World.block_lt_of_cell? _ _ hx340_0; first | rwa [add_block] at this | exact this) Zik.out); replace hx340_0 := (HB.out.cell (World.block_lt_of_cell? w _ hx340_0)).trans hx340_0; replace hx340_1 := (HB.out.cell (World.block_lt_of_cell? w _ hx340_1)).trans hx340_1; replace hx340_2 := (HB.out.cell (World.block_lt_of_cell? w _ hx340_2)).trans hx340_2; replace hx340_3 := (HB.out.cell (World.block_lt_of_cell? w _ hx340_3)).trans hx340_3; replace hx340_0 := (cell_far (p := ⟨Zii, 0, none⟩) (by first | (rw [add_block]; exact hn340_0) | (show (Addr.add _ _).block ≠ _; rw [add_block]; exact hn340_0) | exact hn340_0) (.int .i64 t319)).trans hx340_0; replace hx340_1 := (cell_far (p := ⟨Zii, 0, none⟩) (by first | (rw [add_block]; exact hn340_0) | (show (Addr.add _ _).block ≠ _; rw [add_block]; exact hn340_0) | exact hn340_0) (.int .i64 t319)).trans hx340_1; replace hx340_2 := (cell_far (p := ⟨Zii, 0, none⟩) (by first | (rw [add_block]; exact hn340_0) | (show (Addr.add _ _).block ≠ _; rw [add_block]; exact hn340_0) | exact hn340_0) (.int .i64 t319)).trans hx340_2; replace hx340_3 := (cell_far (p := ⟨Zii, 0, none⟩) (by first | (rw [add_block]; exact hn340_0) | (show (Addr.add _ _).block ≠ _; rw [add_block]; exact hn340_0) | exact hn340_0) (.int .i64 t319)).trans hx340_3; replace hx340_0 := (cell_far (p := ⟨Zii, 1, none⟩) (by first | (rw [add_block]; exact hn340_1) | (show (Addr.add _ _).block ≠ _; rw [add_block]; exact hn340_1) | exact hn340_1) (.int .i64 t320)).trans hx340_0; replace hx340_1 := (cell_far (p := ⟨Zii, 1, none⟩) (by first | (rw [add_block]; exact hn340_1) | (show (Addr.add _ _).block ≠ _; rw [add_block]; exact hn340_1) | exact hn340_1) (.int .i64 t320)).trans hx340_1; replace hx340_2 := (cell_far (p := ⟨Zii, 1, none⟩) (by first | (rw [add_block]; exact hn340_1) | (show (Addr.add _ _).block ≠ _; rw [add_block]; exact hn340_1) | exact hn340_1) (.int .i64 t320)).trans hx340_2; replace hx340_3 := (cell_far (p := ⟨Zii, 1, none⟩) (by first | (rw [add_block]; exact hn340_1) | (show (Addr.add _ _).block ≠ _; rw [add_block]; exact hn340_1) | exact hn340_1) (.int .i64 t320)).trans hx340_3; replace hx340_0 := (cell_far (p := ⟨Zii, 2, none⟩) (by first | (rw [add_block]; exact hn340_2) | (show (Addr.add _ _).block ≠ _; rw [add_block]; exact hn340_2) | exact hn340_2) (.int .i64 t321)).trans hx340_0; replace hx340_1 := (cell_far (p := ⟨Zii, 2, none⟩) (by first | (rw [add_block]; exact hn340_2) | (show (Addr.add _ _).block ≠ _; rw [add_block]; exact hn340_2) | exact hn340_2) (.int .i64 t321)).trans hx340_1; replace hx340_2 := (cell_far (p := ⟨Zii, 2, none⟩) (by first | (rw [add_block]; exact hn340_2) | (show (Addr.add _ _).block ≠ _; rw [add_block]; exact hn340_2) | exact hn340_2) (.int .i64 t321)).trans hx340_2; replace hx340_3 := (cell_far (p := ⟨Zii, 2, none⟩) (by first | (rw [add_block]; exact hn340_2) | (show (Addr.add _ _).block ≠ _; rw [add_block]; exact hn340_2) | exact hn340_2) (.int .i64 t321)).trans hx340_3; replace hx340_0 := (cell_far (p := ⟨Zii, 3, none⟩) (by first | (rw [add_block]; exact hn340_3) | (show (Addr.add _ _).block ≠ _; rw [add_block]; exact hn340_3) | exact hn340_3) (.int .i64 t322)).trans hx340_0; replace hx340_1 := (cell_far (p := ⟨Zii, 3, none⟩) (by first | (rw [add_block]; exact hn340_3) | (show (Addr.add _ _).block ≠ _; rw [add_block]; exact hn340_3) | exact hn340_3) (.int .i64 t322)).trans hx340_1; replace hx340_2 := (cell_far (p := ⟨Zii, 3, none⟩) (by first | (rw [add_block]; exact hn340_3) | (show (Addr.add _ _).block ≠ _; rw [add_block]; exact hn340_3) | exact hn340_3) (.int .i64 t322)).trans hx340_2; replace hx340_3 := (cell_far (p := ⟨Zii, 3, none⟩) (by first | (rw [add_block]; exact hn340_3) | (show (Addr.add _ _).block ≠ _; rw [add_block]; exact hn340_3) | exact hn340_3) (.int .i64 t322)).trans hx340_3; clear hn340_0; clear hn340_1; clear hn340_2; clear hn340_3; replace p340 := eq_true p340; replace q340 := eq_true q340; have Ztw : w94.cell? ⟨Zhc, 0, none⟩ = some (.int .i64 ((rd_T25 l0 x72_4).f0)) := (blk_cell Zhd.out 0).trans rfl; have Ztx : w94.cell? ⟨Zhc, 1, none⟩ = some (.int .i64 ((rd_T25 l0 x72_4).f1)) := (blk_cell Zhd.out 1).trans rfl; have Zty : w94.cell? ⟨Zhc, 2, none⟩ = some (.int .i64 ((rd_T25 l0 x72_4).f2)) := (blk_cell Zhd.out 2).trans rfl; have Ztz : w94.cell? ⟨Zhc, 3, none⟩ = some (.int .i64 ((rd_T25 l0 x72_4).f3)) := (blk_cell Zhd.out 3).trans rfl; have Zua := blk_frozen Zhd.out 0; have Zub := blk_frozen Zhd.out 1; have Zuc := blk_frozen Zhd.out 2; have Zud := blk_frozen Zhd.out 3) | ((with_reducible refine gate_callee (f := 51) rfl ?_); refine goesL_ (some 91) rfl rfl Try.func51 (by kernel_rfl) rfl #[.agg #[.int .i64 ((rd_T25 l0 (ji83)).f0), .int .i64 ((rd_T25 l0 (ji83)).f1), .int .i64 ((rd_T25 l0 (ji83)).f2), .int .i64 ((rd_T25 l0 (ji83)).f3)], .agg #[.int .i64 ((rd_T25 l0 x72_4).f0), .int .i64 ((rd_T25 l0 x72_4).f1), .int .i64 ((rd_T25 l0 x72_4).f2), .int .i64 ((rd_T25 l0 x72_4).f3)]] rfl (by (try simp only [List.map_toArray, List.map_cons, List.map_nil]); first | done | (simp only [hji83]; rfl) | rfl | (simp only [List.length_drop, List.length_take]; rfl)) ?_; (with_reducible refine (impl_minus.calls k4 ((rd_T25 l0 (ji83)).f0) ((rd_T25 l0 (ji83)).f1) ((rd_T25 l0 (ji83)).f2) ((rd_T25 l0 (ji83)).f3) ((rd_T25 l0 x72_4).f0) ((rd_T25 l0 x72_4).f1) ((rd_T25 l0 x72_4).f2) ((rd_T25 l0 x72_4).f3) t341 t342 t343 t344 true _ A85.out).mono ?_); rintro e w100 ⟨rfl, hb⟩; refine ⟨_, rfl, ?_⟩; have n0_ := mA (Kd.R_below (by (with_reducible repeat (first | apply Kd.R_alloc | apply Kd.R_drewN | apply Kd.R_drew)); exact (Kd.R_mono (Kd.R_far (p := ⟨Zii, 3, none⟩) (Kd.R_far (p := ⟨Zii, 2, none⟩) (Kd.R_far (p := ⟨Zii, 1, none⟩) (Kd.R_far (p := ⟨Zii, 0, none⟩) (Kd.R_far (p := ⟨Zii, 3, none⟩) (Kd.R_far (p := ⟨Zii, 2, none⟩) (Kd.R_far (p := ⟨Zii, 1, none⟩) (Kd.R_far (p := ⟨Zii, 0, none⟩) (Kd.R_mono HO_8.out (fun k_ hk => (⟨hk, hk.2⟩ : _ ∧ k_ ≠ Zii))) (fun _ hk => hk.2) (.int .i64 t319)) (fun _ hk => hk.2) (.int .i64 t320)) (fun _ hk => hk.2) (.int .i64 t321)) (fun _ hk => hk.2) (.int .i64 t322)) (fun _ hk => hk.2) (.int .i64 ((rd_T25 l0 (ji83)).f0))) (fun _ hk => hk.2) (.int .i64 ((rd_T25 l0 (ji83)).f1))) (fun _ hk => hk.2) (.int .i64 ((rd_T25 l0 (ji83)).f2))) (fun _ hk => hk.2) (.int .i64 ((rd_T25 l0 (ji83)).f3))) (fun _ h_ => h_.1))) hb); have n1_ := mA (blk_below (g := Za) (o := cQ25 t314 t315 t316 t317) (by (with_reducible repeat (first | refine blk_drewN ?_ _ | refine blk_drew ?_ | refine blk_alloc ?_ _)); refine far4 ?_ Zin.out _ _ _ _; (with_reducible repeat (first | refine blk_drewN ?_ _ | refine blk_drew ?_ | refine blk_alloc ?_ _)); refine far4 ?_ Zin.out _ _ _ _; (with_reducible repeat (first | refine blk_drewN ?_ _ | refine blk_drew ?_ | refine blk_alloc ?_ _)); exact Zb.out) hb); have n2_ := mA (blk_below (g := Zn) (o := cQ25 t319 t320 t321 t322) (by (with_reducible repeat (first | refine blk_drewN ?_ _ | refine blk_drew ?_ | refine blk_alloc ?_ _)); refine far4 ?_ Ziq.out _ _ _ _; (with_reducible repeat (first | refine blk_drewN ?_ _ | refine blk_drew ?_ | refine blk_alloc ?_ _)); refine far4 ?_ Ziq.out _ _ _ _; (with_reducible repeat (first | refine blk_drewN ?_ _ | refine blk_drew ?_ | refine blk_alloc ?_ _)); exact Zp.out) hb); have n3_ := mA (blk_below (g := Zhc) (o := cQ25 (((rd_T25 l0 x72_4).f0)) (((rd_T25 l0 x72_4).f1)) (((rd_T25 l0 x72_4).f2)) (((rd_T25 l0 x72_4).f3))) (by (with_reducible repeat (first | refine blk_drewN ?_ _ | refine blk_drew ?_ | refine blk_alloc ?_ _)); refine far4 ?_ Zis.out _ _ _ _; (with_reducible repeat (first | refine blk_drewN ?_ _ | refine blk_drew ?_ | refine blk_alloc ?_ _)); refine far4 ?_ Zis.out _ _ _ _; (with_reducible repeat (first | refine blk_drewN ?_ _ | refine blk_drew ?_ | refine blk_alloc ?_ _)); exact Zhd.out) hb); have n4_ := mA (blk_below (g := Zii) (o := cQ25 (((rd_T25 l0 (ji83)).f0)) (((rd_T25 l0 (ji83)).f1)) (((rd_T25 l0 (ji83)).f2)) (((rd_T25 l0 (ji83)).f3))) (by (with_reducible repeat (first | refine blk_drewN ?_ _ | refine blk_drew ?_ | refine blk_alloc ?_ _)); refine put4 (v0 := .int .i64 t319) (v1 := .int .i64 t320) (v2 := .int .i64 t321) (v3 := .int .i64 t322) ?_ _ _ _ _; (with_reducible repeat (first | refine blk_drewN ?_ _ | refine blk_drew ?_ | refine blk_alloc ?_ _)); refine put4 (v0 := .int .i64 0) (v1 := .int .i64 0) (v2 := .int .i64 0) (v3 := .int .i64 0) ?_ _ _ _ _; (with_reducible repeat (first | refine blk_drewN ?_ _ | refine blk_drew ?_ | refine blk_alloc ?_ _)); exact Zij.out) hb); have n5_ := mA (below_step (by repeat (first | (with_reducible first | exact HB.out | apply below_alloc | apply pw_below_drewN | apply below_drew1 | refine below_set ?_ Zd.out | refine below_set ?_ Zr.out | refine below_set ?_ Zhf.out | refine below_set ?_ Zim.out) | exact HB.out)) hb); clear HO_8; clear Zb; clear Zp; clear Zhd; clear Zij; clear HB; have HO_8 := n0_; have Zb := n1_; have Zp := n2_; have Zhd := n3_; have Zij := n4_; have HB := n5_; clear n0_ n1_ n2_ n3_ n4_ n5_; (try clear hb); (try clear hb2); (try clear hk); (try clear hi)) | ((with_reducible refine gate_dst (N := 12) rfl ?_); (try (refine gate_guard (by rfl) ?_; dsimp only)); refine box_event ?hg (N := 12) ?hd (cs := #[.int .i64 0, .int .i64 0, .int .i64 0, .int .i64 0]) (t := 25) ?hr ?_; (case hd => rfl); (case hg => rfl); (case hr => first | (go_simp; done) | (go_simp; rfl)); intro Zre hg w101 hbox hb; have n0_ := mA (Kd.R_below (Kd.R_elderB (by (with_reducible repeat (first | apply Kd.R_alloc | apply Kd.R_drewN | apply Kd.R_drew)); exact HO_8.out) Zre (Nat.le_of_eq hg.symm)) hb); have n1_ := mA (blk_below (g := Za) (o := cQ25 t314 t315 t316 t317) Zb.out hb); have n2_ := mA (blk_below (g := Zn) (o := cQ25 t319 t320 t321 t322) Zp.out hb); have n3_ := mA (blk_below (g := Zhc) (o := cQ25 (((rd_T25 l0 x72_4).f0)) (((rd_T25 l0 x72_4).f1)) (((rd_T25 l0 x72_4).f2)) (((rd_T25 l0 x72_4).f3))) Zhd.out hb); have n4_ := mA (blk_below (g := Zii) (o := cQ25 (((rd_T25 l0 (ji83)).f0)) (((rd_T25 l0 (ji83)).f1)) (((rd_T25 l0 (ji83)).f2)) (((rd_T25 l0 (ji83)).f3))) Zij.out hb); have n5_ := mA (below_step (by repeat (first | (with_reducible first | exact HB.out | apply below_alloc | apply pw_below_drewN | apply below_drew1 | refine below_set ?_ Zd.out | refine below_set ?_ Zr.out | refine below_set ?_ Zhf.out | refine below_set ?_ Zim.out) | exact HB.out)) hb); have n6_ := mA (hbox); have n7_ := mA ((by rw [hg]; exact (below_size (by repeat (first | (with_reducible first | exact HB.out | apply below_alloc | apply pw_below_drewN | apply below_drew1 | refine below_set ?_ Zd.out | refine below_set ?_ Zr.out | refine below_set ?_ Zhf.out | refine below_set ?_ Zim.out) | exact HB.out))) : w.heap.size ≤ Zre)); have n8_ := mA ((by rw [hg]; exact (below_size (by repeat (first | (with_reducible first | exact HB.out | apply below_alloc | apply pw_below_drewN | apply below_drew1 | refine below_set ?_ Zd.out | refine below_set ?_ Zr.out | refine below_set ?_ Zhf.out | refine below_set ?_ Zim.out) | exact HB.out))) : w.heap.size ≤ Zre)); have n9_ := mA ((by rw [hg]; exact Nat.ne_of_lt (blk_lt (g := Za) (o := cQ25 t314 t315 t316 t317) Zb.out) : Za ≠ Zre)); have n10_ := mA ((by rw [hg]; exact Nat.ne_of_gt (blk_lt (g := Za) (o := cQ25 t314 t315 t316 t317) Zb.out) : Zre ≠ Za)); have n11_ := mA ((by rw [hg]; exact Nat.ne_of_lt (blk_lt (g := Zn) (o := cQ25 t319 t320 t321 t322) Zp.out) : Zn ≠ Zre)); have n12_ := mA ((by rw [hg]; exact Nat.ne_of_gt (blk_lt (g := Zn) (o := cQ25 t319 t320 t321 t322) Zp.out) : Zre ≠ Zn)); have n13_ := mA ((by rw [hg]; exact Nat.ne_of_lt (blk_lt (g := Zhc) (o := cQ25 (((rd_T25 l0 x72_4).f0)) (((rd_T25 l0 x72_4).f1)) (((rd_T25 l0 x72_4).f2)) (((rd_T25 l0 x72_4).f3))) Zhd.out) : Zhc ≠ Zre)); have n14_ := mA ((by rw [hg]; exact Nat.ne_of_gt (blk_lt (g := Zhc) (o := cQ25 (((rd_T25 l0 x72_4).f0)) (((rd_T25 l0 x72_4).f1)) (((rd_T25 l0 x72_4).f2)) (((rd_T25 l0 x72_4).f3))) Zhd.out) : Zre ≠ Zhc)); have n15_ := mA ((by rw [hg]; exact Nat.ne_of_lt (blk_lt (g := Zii) (o := cQ25 (((rd_T25 l0 (ji83)).f0)) (((rd_T25 l0 (ji83)).f1)) (((rd_T25 l0 (ji83)).f2)) (((rd_T25 l0 (ji83)).f3))) Zij.out) : Zii ≠ Zre)); have n16_ := mA ((by rw [hg]; exact Nat.ne_of_gt (blk_lt (g := Zii) (o := cQ25 (((rd_T25 l0 (ji83)).f0)) (((rd_T25 l0 (ji83)).f1)) (((rd_T25 l0 (ji83)).f2)) (((rd_T25 l0 (ji83)).f3))) Zij.out) : Zre ≠ Zii)); clear HO_8; clear Zb; clear Zp; clear Zhd; clear Zij; clear HB; have HO_8 := n0_; have Zb := n1_; have Zp := n2_; have Zhd := n3_; have Zij := n4_; have HB := n5_; have Zrf := n6_; have Zrg := n7_; have Zrh := n8_; have Zri := n9_; have Zrj := n10_; have Zrk := n11_; have Zrm := n12_; have Zrn := n13_; have Zrp := n14_; have Zrq := n15_; have Zrr := n16_; clear n0_ n1_ n2_ n3_ n4_ n5_ n6_ n7_ n8_ n9_ n10_ n11_ n12_ n13_ n14_ n15_ n16_; clear hb hbox hg; have Zue := Zrj.out; have Zuf := Zri.out; have Zug := Zrm.out; have Zuh := Zrk.out; have Zui := Zrp.out; have Zuj := Zrn.out; have Zuk := Zrr.out; have Zum := Zrq.out; have Zun : w101.cell? ⟨Zre, 0, none⟩ = some (.int .i64 0) := (blk_cell Zrf.out 0).trans rfl; have Zup : w101.cell? ⟨Zre, 1, none⟩ = some (.int .i64 0) := (blk_cell Zrf.out 1).trans rfl; have Zuq : w101.cell? ⟨Zre, 2, none⟩ = some (.int .i64 0) := (blk_cell Zrf.out 2).trans rfl; have Zur : w101.cell? ⟨Zre, 3, none⟩ = some (.int .i64 0) := (blk_cell Zrf.out 3).trans rfl; have Zus := blk_frozen Zrf.out 0; have Zut := blk_frozen Zrf.out 1; have Zuu := blk_frozen Zrf.out 2; have Zuv := blk_frozen Zrf.out 3) | ((with_reducible refine gate_builtin (b := .append) (xs := #[.tmp 96, .tmp 98]) rfl ?_); (try (refine gate_guard (by rfl) ?_; dsimp only)); at_builtin; refine Kd.R_append k25 (w0 := w) w.heap.size rfl (.tmp 96) (.tmp 98) 45 25 (.agg #[(.int .i64 0), (.int .i64 0), (.int .i64 0), (.int .i64 0)]) 32 rfl Try.underlying45 info25 rfl (by decide) (by omega) u8 x8_4 (⟨t341, t342, t343, t344⟩ : S25) [.int .i64 t341, .int .i64 t342, .int .i64 t343, .int .i64 t344] (fun k_ => k_ ≠ Za ∧ k_ ≠ Zn ∧ k_ ≠ Zhc ∧ k_ ≠ Zii ∧ k_ ≠ Zre) (fun _ => False) rfl (by first | (go_simp; done) | (go_simp; rfl)) ?aP (fun _ hk => hk.elim) ?aF ?aO ?aB ?aS ?aL ?_; (case aP => exact k25_mkM _ _ _ (⟨t341, t342, t343, t344⟩ : S25)); (case aB => exact (by repeat (first | (with_reducible first | exact HB.out | apply below_alloc | apply pw_below_drewN | apply below_drew1 | refine below_set ?_ Zd.out | refine below_set ?_ Zr.out | refine below_set ?_ Zhf.out | refine below_set ?_ Zim.out | refine below_set ?_ Zrh.out) | exact HB.out))); (case aF => exact (fun k_ hk => ⟨Kd.freshB (g := Za) (o := cQ25 t314 t315 t316 t317) (by (with_reducible repeat (first | refine blk_drewN ?_ _ | refine blk_drew ?_ | refine blk_alloc ?_ _)); refine far4 ?_ Zri.out _ _ _ _; (with_reducible repeat (first | refine blk_drewN ?_ _ | refine blk_drew ?_ | refine blk_alloc ?_ _)); exact Zb.out) k_ hk, Kd.freshB (g := Zn) (o := cQ25 t319 t320 t321 t322) (by (with_reducible repeat (first | refine blk_drewN ?_ _ | refine blk_drew ?_ | refine blk_alloc ?_ _)); refine far4 ?_ Zrk.out _ _ _ _; (with_reducible repeat (first | refine blk_drewN ?_ _ | refine blk_drew ?_ | refine blk_alloc ?_ _)); exact Zp.out) k_ hk, Kd.freshB (g := Zhc) (o := cQ25 (((rd_T25 l0 x72_4).f0)) (((rd_T25 l0 x72_4).f1)) (((rd_T25 l0 x72_4).f2)) (((rd_T25 l0 x72_4).f3))) (by (with_reducible repeat (first | refine blk_drewN ?_ _ | refine blk_drew ?_ | refine blk_alloc ?_ _)); refine far4 ?_ Zrn.out _ _ _ _; (with_reducible repeat (first | refine blk_drewN ?_ _ | refine blk_drew ?_ | refine blk_alloc ?_ _)); exact Zhd.out) k_ hk, Kd.freshB (g := Zii) (o := cQ25 (((rd_T25 l0 (ji83)).f0)) (((rd_T25 l0 (ji83)).f1)) (((rd_T25 l0 (ji83)).f2)) (((rd_T25 l0 (ji83)).f3))) (by (with_reducible repeat (first | refine blk_drewN ?_ _ | refine blk_drew ?_ | refine blk_alloc ?_ _)); refine far4 ?_ Zrq.out _ _ _ _; (with_reducible repeat (first | refine blk_drewN ?_ _ | refine blk_drew ?_ | refine blk_alloc ?_ _)); exact Zij.out) k_ hk, Kd.freshB (g := Zre) (o := cQ25 t341 t342 t343 t344) (by (with_reducible repeat (first | refine blk_drewN ?_ _ | refine blk_drew ?_ | refine blk_alloc ?_ _)); refine put4 (v0 := .int .i64 0) (v1 := .int .i64 0) (v2 := .int .i64 0) (v3 := .int .i64 0) ?_ _ _ _ _; (with_reducible repeat (first | refine blk_drewN ?_ _ | refine blk_drew ?_ | refine blk_alloc ?_ _)); exact Zrf.out) k_ hk⟩)); (case aO => exact (by (with_reducible repeat (first | apply Kd.R_alloc | apply Kd.R_drewN | apply Kd.R_drew)); exact Kd.R_mono (Kd.R_far (p := ⟨Zre, 3, none⟩) (Kd.R_far (p := ⟨Zre, 2, none⟩) (Kd.R_far (p := ⟨Zre, 1, none⟩) (Kd.R_far (p := ⟨Zre, 0, none⟩) (Kd.R_mono HO_8.out (fun k_ hk => (⟨hk, hk.2⟩ : _ ∧ k_ ≠ Zre))) (fun _ hk => hk.2) (.int .i64 t341)) (fun _ hk => hk.2) (.int .i64 t342)) (fun _ hk => hk.2) (.int .i64 t343)) (fun _ hk => hk.2) (.int .i64 t344)) (fun _ hk => ⟨hk.1.1.1.1.1, ⟨hk.1.1.1.1.2, ⟨hk.1.1.1.2, ⟨hk.1.1.2, hk.1.2⟩⟩⟩⟩))); (case aS => exact (below_size (by repeat (first | (with_reducible first | exact HB.out | apply below_alloc | apply pw_below_drewN | apply below_drew1 | refine below_set ?_ Zd.out | refine below_set ?_ Zr.out | refine below_set ?_ Zhf.out | refine below_set ?_ Zim.out | refine below_set ?_ Zrh.out) | exact HB.out)))); (case aL => have := LMc87.out; omega); intro v348 w107 ho hb hg hat; rw [← Ny347.out] at ho; have n0_ := mA (blk_grown (g := Za) (o := cQ25 t314 t315 t316 t317) (by (with_reducible repeat (first | refine blk_drewN ?_ _ | refine blk_drew ?_ | refine blk_alloc ?_ _)); refine far4 ?_ Zri.out _ _ _ _; (with_reducible repeat (first | refine blk_drewN ?_ _ | refine blk_drew ?_ | refine blk_alloc ?_ _)); exact Zb.out) hg (Kd.R_away HO_8.out (fun _ hk => hk.1.1.1.1))); have n1_ := mA (blk_grown (g := Zn) (o := cQ25 t319 t320 t321 t322) (by (with_reducible repeat (first | refine blk_drewN ?_ _ | refine blk_drew ?_ | refine blk_alloc ?_ _)); refine far4 ?_ Zrk.out _ _ _ _; (with_reducible repeat (first | refine blk_drewN ?_ _ | refine blk_drew ?_ | refine blk_alloc ?_ _)); exact Zp.out) hg (Kd.R_away HO_8.out (fun _ hk => hk.1.1.1.2))); have n2_ := mA (blk_grown (g := Zhc) (o := cQ25 (((rd_T25 l0 x72_4).f0)) (((rd_T25 l0 x72_4).f1)) (((rd_T25 l0 x72_4).f2)) (((rd_T25 l0 x72_4).f3))) (by (with_reducible repeat (first | refine blk_drewN ?_ _ | refine blk_drew ?_ | refine blk_alloc ?_ _)); refine far4 ?_ Zrn.out _ _ _ _; (with_reducible repeat (first | refine blk_drewN ?_ _ | refine blk_drew ?_ | refine blk_alloc ?_ _)); exact Zhd.out) hg (Kd.R_away HO_8.out (fun _ hk => hk.1.1.2))); have n3_ := mA (blk_grown (g := Zii) (o := cQ25 (((rd_T25 l0 (ji83)).f0)) (((rd_T25 l0 (ji83)).f1)) (((rd_T25 l0 (ji83)).f2)) (((rd_T25 l0 (ji83)).f3))) (by (with_reducible repeat (first | refine blk_drewN ?_ _ | refine blk_drew ?_ | refine blk_alloc ?_ _)); refine far4 ?_ Zrq.out _ _ _ _; (with_reducible repeat (first | refine blk_drewN ?_ _ | refine blk_drew ?_ | refine blk_alloc ?_ _)); exact Zij.out) hg (Kd.R_away HO_8.out (fun _ hk => hk.1.2))); have n4_ := mA (blk_grown (g := Zre) (o := cQ25 t341 t342 t343 t344) (by (with_reducible repeat (first | refine blk_drewN ?_ _ | refine blk_drew ?_ | refine blk_alloc ?_ _)); refine put4 (v0 := .int .i64 0) (v1 := .int .i64 0) (v2 := .int .i64 0) (v3 := .int .i64 0) ?_ _ _ _ _; (with_reducible repeat (first | refine blk_drewN ?_ _ | refine blk_drew ?_ | refine blk_alloc ?_ _)); exact Zrf.out) hg (Kd.R_away HO_8.out (fun _ hk => hk.2))); have n5_ := mA (hb); have n6_ := mA (ho); clear Zb; clear Zp; clear Zhd; clear Zij; clear Zrf; clear HB; clear HO_8; have Zb := n0_; have Zp := n1_; have Zhd := n2_; have Zij := n3_; have Zrf := n4_; have HB := n5_; have HO349 := n6_; clear n0_ n1_ n2_ n3_ n4_ n5_ n6_; clear ho hb hg hat))
 go_roundg k4
 case measure => have := HJ3.out; have := HK2.out; have := HK3.out; have := HK4.out; omega
 case rel => exact ⟨(y347), (ji83), (by first | rfl | (simp; done) | (simp only [← hji83] <;> (first | rfl | simp)) | (simp [*]; done)), H', ⟨by have := HJ3.out; have := HK2.out; have := HK3.out; have := HK4.out; omega⟩, ⟨by (with_reducible repeat (first | apply Kd.R_alloc | apply Kd.R_drewN | apply Kd.R_drew)); exact Kd.R_mono HO349.out (fun _ hk => ⟨hk.1, hk.2.1⟩)⟩, ⟨by (with_reducible repeat (first | refine blk_drewN ?_ _ | refine blk_drew ?_ | refine blk_alloc ?_ _)); exact Zb.out⟩, ⟨by (with_reducible repeat (first | refine blk_drewN ?_ _ | refine blk_drew ?_ | refine blk_alloc ?_ _)); exact Zp.out⟩, ⟨by repeat (first | (with_reducible first | exact HB.out | apply below_alloc | apply pw_below_drewN | apply below_drew1 | refine below_set ?_ Zd.out | refine below_set ?_ Zr.out | refine below_set ?_ Zhf.out | refine below_set ?_ Zim.out | refine below_set ?_ Zrh.out) | exact HB.out)⟩⟩
end Go.Proofs.Ytfimodphnfejdaa.PFnThreeSteps
