/- Contracts of the Go functions that the law FnExactChainOf reaches. Sections as the kit's print.sh writes them, put together by a program of this session (stq.py); what calls into Go's library is this session's walk over the kit's shelf contracts. -/
import Derived.Test.YtfimodphnfejdaaQFnExactChainOfy2
namespace Go.Proofs.Ytfimodphnfejdaa.PFnExactChainOf
open Go.RowKit Go.Proofs.YtfimodphnfejdaaW.PrintWords Go.Proofs.YtfimodphnfejdaaW.PrintLast Go.Proofs.YtfimodphnfejdaaW.PrintMore
attribute [local go_sem] max2_int min2_int max_two min_two max_three min_three max_four min_four
set_option linter.unusedVariables false
set_option linter.unusedSimpArgs false

/-! ### spec_ChainOf: function 34 -/
mutual
def spec_ChainOf.j0 : Nat → Int → Int → List (S25) → Bool → Option ((List (S25)))
  | 0, _, _, _, _ => none
  | k + 1, x0, x1, x5, x18 => if x18 = true then (some x5) else (spec_ChainOf.l0 k x1 x5 x0)
def spec_ChainOf.l0 : Nat → Int → List (S25) → Int → Option ((List (S25)))
  | 0, _, _, _ => none
  | k + 1, x1, x5, x6 => if x6 ≤ x1 then ((spec_Fifths.f k x6).bind fun bt184 => (if x5.length < 4398046511104 then (spec_ChainOf.l1 k x1 (x5 ++ [(⟨bt184.1, bt184.2.1, bt184.2.2.1, bt184.2.2.2.1⟩ : S25)]) x6 (x5.length : Int) bt184.1 bt184.2.1 bt184.2.2.1 bt184.2.2.2.1) else (none))) else (some x5)
def spec_ChainOf.l1 : Nat → Int → List (S25) → Int → Int → Int → Int → Int → Int → Option ((List (S25)))
  | 0, _, _, _, _, _, _, _, _ => none
  | k + 1, x1, x5, x6, x9, x190000, x190001, x190002, x190003 => if x9 > 0 then (if 0 ≤ (wrap64 (x9 - 1)) then (if (wrap64 (x9 - 1)) < (x5.length : Int) then ((spec_CompareIntervals.f k ((rd_T25 x5 (wrap64 (x9 - 1))).f0) ((rd_T25 x5 (wrap64 (x9 - 1))).f1) ((rd_T25 x5 (wrap64 (x9 - 1))).f2) ((rd_T25 x5 (wrap64 (x9 - 1))).f3) x190000 x190001 x190002 x190003).bind fun t194 => (if t194 > 0 then (if 0 ≤ x9 then (if x9 < (x5.length : Int) then (spec_ChainOf.l1 k x1 (x5.set (x9 : Int).toNat (⟨(rd_T25 x5 (wrap64 (x9 - 1))).f0, (rd_T25 x5 (wrap64 (x9 - 1))).f1, (rd_T25 x5 (wrap64 (x9 - 1))).f2, (rd_T25 x5 (wrap64 (x9 - 1))).f3⟩ : S25)) x6 (wrap64 (x9 - 1)) x190000 x190001 x190002 x190003) else (none)) else (none)) else (if 0 ≤ x9 then (if x9 < (x5.length : Int) then (spec_ChainOf.l0 k x1 (x5.set (x9 : Int).toNat (⟨x190000, x190001, x190002, x190003⟩ : S25)) (wrap64 (x6 + 1))) else (none)) else (none)))) else (none)) else (none)) else (if 0 ≤ x9 then (if x9 < (x5.length : Int) then (spec_ChainOf.l0 k x1 (x5.set (x9 : Int).toNat (⟨x190000, x190001, x190002, x190003⟩ : S25)) (wrap64 (x6 + 1))) else (none)) else (none))
end
def spec_ChainOf.f (k : Nat) (a0 : Int) (a1 : Int) : Option ((List (S25))) := (some (([] : List (S25)) : List (S25))).bind fun y180 => ((spec_l01In.f a0 (-30) a1).bind fun t183 => (if t183 = true then (spec_ChainOf.j0 k a0 a1 y180 (decide (a1 > 30))) else (spec_ChainOf.j0 k a0 a1 y180 true)))
def spec_ChainOf.T10 : Bool × List (List Nat × List Nat) := (true, [([], []), ([0], [0]), ([1], [1]), ([2], [2]), ([2], [2]), ([4, 2], [2, 4]), ([3, 5, 2], [2, 3, 5]), ([6, 2], [2, 6]), ([2], [2]), ([7, 8, 2, 2], [2, 7, 8]), ([9, 2], [2, 9]), ([2, 10], [2, 10])])
def spec_ChainOf.B10 : List Nat := [0, 1, 3, 7, 7, 23, 63, 127, 7, 511, 1023, 2047]
theorem spec_ChainOf.tab10 : rtab .any (opsOf Try.f34 10) = spec_ChainOf.T10 := by kernel_rfl
theorem spec_ChainOf.bits10 : waitsOk spec_ChainOf.T10.2 spec_ChainOf.B10 = true := by kernel_rfl
set_option maxHeartbeats 8000000 in
set_option maxRecDepth 100000 in
theorem spec_ChainOf.calls (k : Nat) (a0 : Int) (a1 : Int) (r : List (S25)) (w : World) (h : spec_ChainOf.f k a0 a1 = some r) :
    Calls Try.prog 34 #[.int .i64 a0, .int .i64 a1] w fun e w' => ∃ v0_ : Value, e = .returned (v0_) ∧ Kd.R k25 25 w' w.heap.size (fun _ => True) v0_ r ∧ Below w.heap.size w w' := by
  have hu25 := Try.underlying25
  have HB := mA (Below.refl w.heap.size w)
  have H : ((some (([] : List (S25)) : List (S25))).bind fun y180 => ((spec_l01In.f a0 (-30) a1).bind fun t183 => (if t183 = true then (spec_ChainOf.j0 k a0 a1 y180 (decide (a1 > 30))) else (spec_ChainOf.j0 k a0 a1 y180 true)))) = some r := h
  clear h
  obtain ⟨y180, hy180⟩ : ∃ y_ : List (S25), y_ = (([] : List (S25))) := ⟨_, rfl⟩
  replace H : ((spec_l01In.f a0 (-30) a1).bind fun t183 => (if t183 = true then (spec_ChainOf.j0 k a0 a1 y180 (decide (a1 > 30))) else (spec_ChainOf.j0 k a0 a1 y180 true))) = some r := by first | (rw [hy180]; with_reducible exact H) | (have H2_ := (Option.bind_some _ _).symm.trans H; rw [hy180]; with_reducible exact H2_) | (have H2_ := (Option.bind_some _ _).symm.trans H; with_reducible exact H2_) | with_reducible exact H | (rw [hy180]; exact H) | exact H
  have Ny180 := mA hy180
  clear hy180
  have HC3 := mA H
  clear H
  go_enter Try.func34, Try.ntmps34
  go_upto_region 2 with (first | ((with_reducible refine gate_dst (N := 10) rfl ?_); refine Kd.R_lit k25 _ 25 ?hg (N := 10) ?hd (xs := ([] : List (S25))) (inner := []) (ok := fun _ => True) (okp := fun _ => True) ?hr ?hp (fun _ hk => hk) trivial (Below.refl _ _) (Nat.le_refl _) (by simp) ?_; (case hd => rfl); (case hg => rfl); (case hr => first | (go_simp; done) | (go_simp; rfl)); (case hp => exact (Reps.none _ _)); intro v181 w4 ho5 hb hg_ hnew_; clear hg_ hnew_; (first | rw [← Ny180.out] at ho5 | (simp only [Int.reduceToNat] at ho5; rw [← Ny180.out] at ho5)); have n0_ := mA (Kd.R_lower ho5 (below_size (by repeat (first | (with_reducible first | exact HB.out | apply below_alloc | apply pw_below_drewN | apply below_drew1) | exact HB.out)))); have n1_ := mA (below_step (by repeat (first | (with_reducible first | exact HB.out | apply below_alloc | apply pw_below_drewN | apply below_drew1) | exact HB.out)) hb); clear HB; have HO182 := n0_; have HB := n1_; clear n0_ n1_; clear hb ho5))
  (try simp only [Act.put, List.setIfInBounds_toArray, List.set_cons_zero, List.set_cons_succ])
  go_cut [18] (fun v18 wc => ∃ (kq : Nat) (x18_2 : Bool), v18 = .bool x18_2 ∧ Aside0 (spec_ChainOf.j0 kq a0 a1 y180 x18_2 = some r) ∧ Aside0 (kq ≤ k) ∧ Aside0 (Kd.R k25 25 wc w.heap.size (fun _ => True) v181 y180) ∧ Aside0 (Below w.heap.size w wc))
  case first =>
    have H := HC3.out
    clear HC3
    replace H := Option.bind_eq_some_iff.mp H
    obtain ⟨t183, A60, H⟩ := H
    replace H : (if t183 = true then (spec_ChainOf.j0 k a0 a1 y180 (decide (a1 > 30))) else (spec_ChainOf.j0 k a0 a1 y180 true)) = some r := H
    have A6 := mA A60
    clear A60
    by_cases c7 : t183 = true
    · subst c7
      have H1 : (spec_ChainOf.j0 k a0 a1 y180 (decide (a1 > 30))) = some r := by rw [if_pos rfl] at H; exact H
      clear H
      have H := H1
      clear H1
      have H' := mA H
      clear H
      go_wp2_with (first | ((with_reducible refine gate_callee (f := 47) rfl ?_); refine goesL_ (some 13) rfl rfl Try.func47 (by kernel_rfl) rfl #[.int .i64 a0, .int .i64 (-30), .int .i64 a1] rfl (by (try simp only [List.map_toArray, List.map_cons, List.map_nil]); first | done | rfl | (simp only [List.length_drop, List.length_take]; rfl)) ?_; (with_reducible refine (spec_l01In.calls a0 (-30) a1 true _ A6.out).mono ?_); rintro e w' ⟨rfl, ⟨nd, rfl⟩⟩; refine ⟨_, rfl, ?_⟩))
      go_meet
      case rel => exact ⟨_, (decide (a1 > 30)), (by first | rfl | (simp; done) | (simp [*]; done)), H', ⟨by first | omega | exact Nat.le_refl _⟩, ⟨by (with_reducible repeat (first | apply Kd.R_alloc | apply Kd.R_drewN | apply Kd.R_drew)); exact HO182.out⟩, ⟨by repeat (first | (with_reducible first | exact HB.out | apply below_alloc | apply pw_below_drewN | apply below_drew1) | exact HB.out)⟩⟩
    · replace c7 := Bool.eq_false_iff.mpr c7
      subst c7
      have H1 : (spec_ChainOf.j0 k a0 a1 y180 true) = some r := by rw [if_neg (show ¬ (false = true) by decide)] at H; exact H
      clear H
      have H := H1
      clear H1
      have H' := mA H
      clear H
      go_wp2_with (first | ((with_reducible refine gate_callee (f := 47) rfl ?_); refine goesL_ (some 13) rfl rfl Try.func47 (by kernel_rfl) rfl #[.int .i64 a0, .int .i64 (-30), .int .i64 a1] rfl (by (try simp only [List.map_toArray, List.map_cons, List.map_nil]); first | done | rfl | (simp only [List.length_drop, List.length_take]; rfl)) ?_; (with_reducible refine (spec_l01In.calls a0 (-30) a1 false _ A6.out).mono ?_); rintro e w' ⟨rfl, ⟨nd, rfl⟩⟩; refine ⟨_, rfl, ?_⟩))
      go_meet
      case rel => exact ⟨_, (true), (by first | rfl | (simp; done) | (simp [*]; done)), H', ⟨by first | omega | exact Nat.le_refl _⟩, ⟨by (with_reducible repeat (first | apply Kd.R_alloc | apply Kd.R_drewN | apply Kd.R_drew)); exact HO182.out⟩, ⟨by repeat (first | (with_reducible first | exact HB.out | apply below_alloc | apply pw_below_drewN | apply below_drew1) | exact HB.out)⟩⟩
  case rest =>
    clear HC3
    try clear p2
    try clear c3
    try clear c4
    try clear c7
    obtain ⟨kq, x18_2, rfl, HA, HJ2, HO_5, HB⟩ := hcut
    cases kq with
    | zero => exact absurd HA.out (by simp [spec_ChainOf.j0])
    | succ kj2 =>
      have H := HA.out
      clear HA
      simp only [spec_ChainOf.j0] at H
      by_cases c8 : x18_2 = true
      · subst c8
        have H1 : (some y180) = some r := by rw [if_pos rfl] at H; exact H
        clear H
        have H := H1
        clear H1
        obtain rfl := Option.some.inj H
        go_wp2
        go_ret
        exact ⟨_, by first | rfl | (simp [errW_none, errW_some] <;> rfl) | (simp [*, errW_none, errW_some] <;> rfl), by (with_reducible repeat (first | apply Kd.R_alloc | apply Kd.R_drewN | apply Kd.R_drew)); exact HO_5.out, by repeat (first | (with_reducible first | exact HB.out | apply below_alloc | apply pw_below_drewN | apply below_drew1) | exact HB.out)⟩
      · replace c8 := Bool.eq_false_iff.mpr c8
        subst c8
        have H1 : (spec_ChainOf.l0 kj2 a1 y180 a0) = some r := by rw [if_neg (show ¬ (false = true) by decide)] at H; exact H
        clear H
        have H := H1
        clear H1
        have H' := mA H
        clear H
        go_wp2
        go_loopg [5, 6] kj2 (fun kq v5 v6 w' => ∃ (x5_2 : List (S25)) (x6_2 : Int), v6 = .int .i64 x6_2 ∧ Aside0 (spec_ChainOf.l0 kq a1 x5_2 x6_2 = some r) ∧ Aside0 (kq ≤ kj2) ∧ Aside0 (Kd.R k25 25 w' w.heap.size (fun _ => True) v5 x5_2) ∧ Aside0 (Below w.heap.size w w'))
        case atStart => exact ⟨(y180), (a0), (by first | rfl | (simp; done) | (simp [*]; done)), H', ⟨Nat.le_refl _⟩, ⟨by (with_reducible repeat (first | apply Kd.R_alloc | apply Kd.R_drewN | apply Kd.R_drew)); exact HO_5.out⟩, ⟨by repeat (first | (with_reducible first | exact HB.out | apply below_alloc | apply pw_below_drewN | apply below_drew1) | exact HB.out)⟩⟩
        case round =>
          clear H'
          try clear p2
          try clear c3
          try clear c4
          try clear c7
          try clear c8
          try clear p2
          obtain ⟨x5_2, x6_2, rfl, HA, HK2, HO_5, HB⟩ := hrel
          cases gk with
          | zero => exact absurd HA.out (by simp [spec_ChainOf.l0])
          | succ k2 =>
            have H := HA.out
            clear HA
            simp only [spec_ChainOf.l0] at H
            by_cases c9 : x6_2 ≤ a1
            · rw [if_pos c9] at H
              have c9b0 : decide (x6_2 ≤ a1) = true := decide_eq_true c9
              clear c9
              replace H := Option.bind_eq_some_iff.mp H
              obtain ⟨⟨t184, t185, t186, t187, t188⟩, A100, H⟩ := H
              replace H : (if x5_2.length < 4398046511104 then (spec_ChainOf.l1 k2 a1 (x5_2 ++ [(⟨t184, t185, t186, t187⟩ : S25)]) x6_2 (x5_2.length : Int) t184 t185 t186 t187) else (none)) = some r := H
              have A10 := mA A100
              clear A100
              by_cases c11 : x5_2.length < 4398046511104
              · rw [if_pos c11] at H
                have LMc11 := mA c11
                clear c11
                obtain ⟨y190, hy190⟩ : ∃ y_ : List (S25), y_ = (x5_2 ++ [(⟨t184, t185, t186, t187⟩ : S25)]) := ⟨_, rfl⟩
                replace H : (spec_ChainOf.l1 k2 a1 y190 x6_2 (x5_2.length : Int) t184 t185 t186 t187) = some r := by first | (rw [hy190]; with_reducible exact H) | (have H2_ := (Option.bind_some _ _).symm.trans H; rw [hy190]; with_reducible exact H2_) | (have H2_ := (Option.bind_some _ _).symm.trans H; with_reducible exact H2_) | with_reducible exact H | (rw [hy190]; exact H) | exact H
                have Ny190 := mA hy190
                clear hy190
                have H' := mA H
                clear H
                go_wp2_with (first | ((with_reducible refine gate_callee (f := 20) rfl ?_); refine goesL_ (some 28) rfl rfl Try.func20 (by kernel_rfl) rfl #[.int .i64 x6_2] rfl (by (try simp only [List.map_toArray, List.map_cons, List.map_nil]); first | done | rfl | (simp only [List.length_drop, List.length_take]; rfl)) ?_; (with_reducible refine (spec_Fifths.calls k2 x6_2 t184 t185 t186 t187 t188 _ A10.out).mono ?_); rintro e w12 ⟨rfl, hb⟩; refine ⟨_, rfl, ?_⟩; have n0_ := mA (Kd.R_below (by (with_reducible repeat (first | apply Kd.R_alloc | apply Kd.R_drewN | apply Kd.R_drew)); exact HO_5.out) hb); have n1_ := mA (below_step (by repeat (first | (with_reducible first | exact HB.out | apply below_alloc | apply pw_below_drewN | apply below_drew1) | exact HB.out)) hb); clear HO_5; clear HB; have HO_5 := n0_; have HB := n1_; clear n0_ n1_; (try clear hb); (try clear hb2); (try clear hk); (try clear hi)) | ((with_reducible refine gate_dst (N := 7) rfl ?_); refine box_event ?hg (N := 7) ?hd (cs := #[.int .i64 0, .int .i64 0, .int .i64 0, .int .i64 0]) (t := 25) ?hr ?_; (case hd => rfl); (case hg => rfl); (case hr => first | (go_simp; done) | (go_simp; rfl)); intro Za hg w13 hbox hb; have n0_ := mA (Kd.R_below (Kd.R_elderB (by (with_reducible repeat (first | apply Kd.R_alloc | apply Kd.R_drewN | apply Kd.R_drew)); exact HO_5.out) Za (Nat.le_of_eq hg.symm)) hb); have n1_ := mA (below_step (by repeat (first | (with_reducible first | exact HB.out | apply below_alloc | apply pw_below_drewN | apply below_drew1) | exact HB.out)) hb); have n2_ := mA (hbox); have n3_ := mA ((by rw [hg]; exact (below_size (by repeat (first | (with_reducible first | exact HB.out | apply below_alloc | apply pw_below_drewN | apply below_drew1) | exact HB.out))) : w.heap.size ≤ Za)); have n4_ := mA ((by rw [hg]; exact (below_size (by repeat (first | (with_reducible first | exact HB.out | apply below_alloc | apply pw_below_drewN | apply below_drew1) | exact HB.out))) : w.heap.size ≤ Za)); clear HO_5; clear HB; have HO_5 := n0_; have HB := n1_; have Zb := n2_; have Zc := n3_; have Zd := n4_; clear n0_ n1_ n2_ n3_ n4_; clear hb hbox hg; have Ze : w13.cell? ⟨Za, 0, none⟩ = some (.int .i64 0) := (blk_cell Zb.out 0).trans rfl; have Zf : w13.cell? ⟨Za, 1, none⟩ = some (.int .i64 0) := (blk_cell Zb.out 1).trans rfl; have Zg : w13.cell? ⟨Za, 2, none⟩ = some (.int .i64 0) := (blk_cell Zb.out 2).trans rfl; have Zh : w13.cell? ⟨Za, 3, none⟩ = some (.int .i64 0) := (blk_cell Zb.out 3).trans rfl; have Zi := blk_frozen Zb.out 0; have Zj := blk_frozen Zb.out 1; have Zk := blk_frozen Zb.out 2; have Zm := blk_frozen Zb.out 3; obtain ⟨Ao15, co15, eo15⟩ := Kd.R_slice HO_5.out; subst eo15) | ((with_reducible refine gate_builtin (b := .append) (xs := #[.tmp 33, .tmp 35]) rfl ?_); at_builtin; refine Kd.R_append k25 (w0 := w) w.heap.size rfl (.tmp 33) (.tmp 35) 45 25 (.agg #[(.int .i64 0), (.int .i64 0), (.int .i64 0), (.int .i64 0)]) 32 rfl Try.underlying45 info25 rfl (by decide) (by omega) (.slice Ao15 x5_2.length co15) x5_2 (⟨t184, t185, t186, t187⟩ : S25) [.int .i64 t184, .int .i64 t185, .int .i64 t186, .int .i64 t187] (fun k_ => k_ ≠ Za) (fun _ => False) rfl (by first | (go_simp; done) | (go_simp; rfl)) ?aP (fun _ hk => hk.elim) ?aF ?aO ?aB ?aS ?aL ?_; (case aP => exact k25_mkM _ _ _ (⟨t184, t185, t186, t187⟩ : S25)); (case aB => exact (by repeat (first | (with_reducible first | exact HB.out | apply below_alloc | apply pw_below_drewN | apply below_drew1 | refine below_set ?_ Zd.out) | exact HB.out))); (case aF => exact (fun k_ hk => Kd.freshB (g := Za) (o := cQ25 t184 t185 t186 t187) (by (with_reducible repeat (first | refine blk_drewN ?_ _ | refine blk_drew ?_ | refine blk_alloc ?_ _)); refine blk_put (cs := #[.int .i64 t184, .int .i64 t185, .int .i64 t186, .int .i64 0]) ?_ 3 _ rfl; (with_reducible repeat (first | refine blk_drewN ?_ _ | refine blk_drew ?_ | refine blk_alloc ?_ _)); refine blk_put (cs := #[.int .i64 t184, .int .i64 t185, .int .i64 0, .int .i64 0]) ?_ 2 _ rfl; (with_reducible repeat (first | refine blk_drewN ?_ _ | refine blk_drew ?_ | refine blk_alloc ?_ _)); refine blk_put (cs := #[.int .i64 t184, .int .i64 0, .int .i64 0, .int .i64 0]) ?_ 1 _ rfl; (with_reducible repeat (first | refine blk_drewN ?_ _ | refine blk_drew ?_ | refine blk_alloc ?_ _)); refine blk_put (cs := #[.int .i64 0, .int .i64 0, .int .i64 0, .int .i64 0]) ?_ 0 _ rfl; (with_reducible repeat (first | refine blk_drewN ?_ _ | refine blk_drew ?_ | refine blk_alloc ?_ _)); exact Zb.out) k_ hk)); (case aO => exact (by (with_reducible repeat (first | apply Kd.R_alloc | apply Kd.R_drewN | apply Kd.R_drew)); exact Kd.R_mono (Kd.R_far (p := ⟨Za, 3, none⟩) (Kd.R_far (p := ⟨Za, 2, none⟩) (Kd.R_far (p := ⟨Za, 1, none⟩) (Kd.R_far (p := ⟨Za, 0, none⟩) (Kd.R_mono HO_5.out (fun k_ hk => (⟨hk, hk.2⟩ : _ ∧ k_ ≠ Za))) (fun _ hk => hk.2) (.int .i64 t184)) (fun _ hk => hk.2) (.int .i64 t185)) (fun _ hk => hk.2) (.int .i64 t186)) (fun _ hk => hk.2) (.int .i64 t187)) (fun _ hk => hk.1.2))); (case aS => exact (below_size (by repeat (first | (with_reducible first | exact HB.out | apply below_alloc | apply pw_below_drewN | apply below_drew1 | refine below_set ?_ Zd.out) | exact HB.out)))); (case aL => have := LMc11.out; omega); intro v191 w16 ho hb hg hat; rw [← Ny190.out] at ho; have n0_ := mA (blk_grown (g := Za) (o := cQ25 t184 t185 t186 t187) (by (with_reducible repeat (first | refine blk_drewN ?_ _ | refine blk_drew ?_ | refine blk_alloc ?_ _)); refine blk_put (cs := #[.int .i64 t184, .int .i64 t185, .int .i64 t186, .int .i64 0]) ?_ 3 _ rfl; (with_reducible repeat (first | refine blk_drewN ?_ _ | refine blk_drew ?_ | refine blk_alloc ?_ _)); refine blk_put (cs := #[.int .i64 t184, .int .i64 t185, .int .i64 0, .int .i64 0]) ?_ 2 _ rfl; (with_reducible repeat (first | refine blk_drewN ?_ _ | refine blk_drew ?_ | refine blk_alloc ?_ _)); refine blk_put (cs := #[.int .i64 t184, .int .i64 0, .int .i64 0, .int .i64 0]) ?_ 1 _ rfl; (with_reducible repeat (first | refine blk_drewN ?_ _ | refine blk_drew ?_ | refine blk_alloc ?_ _)); refine blk_put (cs := #[.int .i64 0, .int .i64 0, .int .i64 0, .int .i64 0]) ?_ 0 _ rfl; (with_reducible repeat (first | refine blk_drewN ?_ _ | refine blk_drew ?_ | refine blk_alloc ?_ _)); exact Zb.out) hg (Kd.R_away HO_5.out (fun _ hk => hk.2))); have n1_ := mA (hb); have n2_ := mA (ho); clear Zb; clear HB; clear HO_5; have Zb := n0_; have HB := n1_; have HO192 := n2_; clear n0_ n1_ n2_; clear ho hb hg hat))
                go_loopg [9] k2 (fun kq v9 w' => ∃ (x5_3 : List (S25)) (x9_3 : Int) (x190000_3 : Int) (x190001_3 : Int) (x190002_3 : Int) (x190003_3 : Int), v9 = .int .i64 x9_3 ∧ Aside0 (spec_ChainOf.l1 kq a1 x5_3 x6_2 x9_3 x190000_3 x190001_3 x190002_3 x190003_3 = some r) ∧ Aside0 (kq ≤ k2) ∧ Aside0 (Kd.R k25 25 w' w.heap.size (fun k_ => k_ ≠ Za) v191 x5_3) ∧ Aside0 (w'.heap[Za]? = some (.cells #[.int .i64 x190000_3, .int .i64 x190001_3, .int .i64 x190002_3, .int .i64 x190003_3] 25 (0, 0))) ∧ Aside0 (Below w.heap.size w w'))
                case atStart => exact ⟨(y190), ((x5_2.length : Int)), (t184), (t185), (t186), (t187), (by first | rfl | (simp; done) | (simp [*]; done)), H', ⟨Nat.le_refl _⟩, ⟨by (with_reducible repeat (first | apply Kd.R_alloc | apply Kd.R_drewN | apply Kd.R_drew)); exact HO192.out⟩, ⟨by (with_reducible repeat (first | refine blk_drewN ?_ _ | refine blk_drew ?_ | refine blk_alloc ?_ _)); exact Zb.out⟩, ⟨by repeat (first | (with_reducible first | exact HB.out | apply below_alloc | apply pw_below_drewN | apply below_drew1 | refine below_set ?_ Zd.out) | exact HB.out)⟩⟩
                case round =>
                  clear H'
                  try clear c1
                  try clear c2
                  try clear p2
                  try clear c3
                  try clear c4
                  try clear c7
                  try clear c8
                  try clear c9
                  try clear c9b0
                  try clear c11
                  try clear Ze
                  try clear Zf
                  try clear Zg
                  try clear Zh
                  try clear Zi
                  try clear Zj
                  try clear Zk
                  try clear Zm
                  try clear p2
                  obtain ⟨x5_3, x9_3, x190000_3, x190001_3, x190002_3, x190003_3, rfl, HA, HK3, HO_5, Zb, HB⟩ := hrel
                  cases gk with
                  | zero => exact absurd HA.out (by simp [spec_ChainOf.l1])
                  | succ k3 =>
                    have H := HA.out
                    clear HA
                    simp only [spec_ChainOf.l1] at H
                    by_cases c17 : x9_3 > 0
                    · rw [if_pos c17] at H
                      have c17b0 : decide (0 < x9_3) = true := decide_eq_true c17
                      clear c17
                      obtain ⟨ji18, hji18⟩ : ∃ j_ : Int, (wrap64 (x9_3 - 1)) = j_ := ⟨_, rfl⟩
                      replace H : (if 0 ≤ (ji18) then (if (ji18) < (x5_3.length : Int) then ((spec_CompareIntervals.f k3 ((rd_T25 x5_3 (ji18)).f0) ((rd_T25 x5_3 (ji18)).f1) ((rd_T25 x5_3 (ji18)).f2) ((rd_T25 x5_3 (ji18)).f3) x190000_3 x190001_3 x190002_3 x190003_3).bind fun t194 => (if t194 > 0 then (if 0 ≤ x9_3 then (if x9_3 < (x5_3.length : Int) then (spec_ChainOf.l1 k3 a1 (x5_3.set (x9_3 : Int).toNat (⟨(rd_T25 x5_3 (ji18)).f0, (rd_T25 x5_3 (ji18)).f1, (rd_T25 x5_3 (ji18)).f2, (rd_T25 x5_3 (ji18)).f3⟩ : S25)) x6_2 ji18 x190000_3 x190001_3 x190002_3 x190003_3) else (none)) else (none)) else (if 0 ≤ x9_3 then (if x9_3 < (x5_3.length : Int) then (spec_ChainOf.l0 k3 a1 (x5_3.set (x9_3 : Int).toNat (⟨x190000_3, x190001_3, x190002_3, x190003_3⟩ : S25)) (wrap64 (x6_2 + 1))) else (none)) else (none)))) else (none)) else (none)) = some r := by first | (rw [hji18] at H; exact H) | (simp only [hji18] at H ⊢; exact H)
                      have hji18w : (IntKind.i64.wrap (x9_3 - 1)) = ji18 := (i64_w _).trans hji18
                      by_cases c19 : 0 ≤ (ji18)
                      · rw [if_pos c19] at H
                        have c19b0 : decide (0 ≤ (ji18)) = true := decide_eq_true c19
                        clear c19
                        by_cases c20 : (ji18) < (x5_3.length : Int)
                        · rw [if_pos c20] at H
                          have c20b0 : decide ((ji18) < (x5_3.length : Int)) = true := decide_eq_true c20
                          clear c20
                          replace H := Option.bind_eq_some_iff.mp H
                          obtain ⟨t194, A210, H⟩ := H
                          replace H : (if t194 > 0 then (if 0 ≤ x9_3 then (if x9_3 < (x5_3.length : Int) then (spec_ChainOf.l1 k3 a1 (x5_3.set (x9_3 : Int).toNat (⟨(rd_T25 x5_3 (ji18)).f0, (rd_T25 x5_3 (ji18)).f1, (rd_T25 x5_3 (ji18)).f2, (rd_T25 x5_3 (ji18)).f3⟩ : S25)) x6_2 ji18 x190000_3 x190001_3 x190002_3 x190003_3) else (none)) else (none)) else (if 0 ≤ x9_3 then (if x9_3 < (x5_3.length : Int) then (spec_ChainOf.l0 k3 a1 (x5_3.set (x9_3 : Int).toNat (⟨x190000_3, x190001_3, x190002_3, x190003_3⟩ : S25)) (wrap64 (x6_2 + 1))) else (none)) else (none))) = some r := H
                          have A21 := mA A210
                          clear A210
                          by_cases c22 : t194 > 0
                          · rw [if_pos c22] at H
                            have c22b0 : decide (0 < t194) = true := decide_eq_true c22
                            clear c22
                            by_cases c23 : 0 ≤ x9_3
                            · rw [if_pos c23] at H
                              have c23b0 : decide (0 ≤ x9_3) = true := decide_eq_true c23
                              clear c23
                              by_cases c24 : x9_3 < (x5_3.length : Int)
                              · rw [if_pos c24] at H
                                have c24b0 : decide (x9_3 < (x5_3.length : Int)) = true := decide_eq_true c24
                                clear c24
                                obtain ⟨y196, hy196⟩ : ∃ y_ : List (S25), y_ = (x5_3.set (x9_3 : Int).toNat (⟨(rd_T25 x5_3 (ji18)).f0, (rd_T25 x5_3 (ji18)).f1, (rd_T25 x5_3 (ji18)).f2, (rd_T25 x5_3 (ji18)).f3⟩ : S25)) := ⟨_, rfl⟩
                                replace H : (spec_ChainOf.l1 k3 a1 y196 x6_2 ji18 x190000_3 x190001_3 x190002_3 x190003_3) = some r := by first | (rw [hy196]; with_reducible exact H) | (have H2_ := (Option.bind_some _ _).symm.trans H; rw [hy196]; with_reducible exact H2_) | (have H2_ := (Option.bind_some _ _).symm.trans H; with_reducible exact H2_) | with_reducible exact H | (rw [hy196]; exact H) | exact H
                                have Ny196 := mA hy196
                                clear hy196
                                have H' := mA H
                                clear H
                                try go_wp2
                                have n0_ := mA (Kd.R_drew HO_5.out)
                                have n1_ := mA (blk_drew Zb.out)
                                have n2_ := mA (below_drew1 HB.out)
                                clear HO_5
                                clear Zb
                                clear HB
                                have HO_5 := n0_
                                have Zb := n1_
                                have HB := n2_
                                clear n0_ n1_ n2_
                                obtain ⟨Ao27, co27, eo27⟩ := Kd.R_slice HO_5.out
                                (first | subst eo27 | (injection eo27 with f1_ f2_ f3_; have f4_ := f1_.symm; have f5_ := f3_.symm; clear f1_ f2_ f3_; subst f4_; subst f5_))
                                have p193 : 0 ≤ ((ji18) : Int) := of_decide_eq_true (by first | (with_reducible assumption) | assumption)
                                have q193 : (ji18) < (x5_3.length : Int) := of_decide_eq_true (by first | (with_reducible assumption) | assumption)
                                obtain ⟨ad193, e193, hx193_0, hx193_1, hx193_2, hx193_3⟩ := at_T25 (Kd.R_reads' HO_5.out).2.2 (ji18) p193 q193
                                cases e193
                                replace p193 := eq_true p193
                                replace q193 := eq_true q193
                                refine start_ (n := 12) (S := fun w' => w'.cell? ⟨Za, 0, none⟩ = some (.int .i64 x190000_3) ∧ w'.cell? ⟨Za, 1, none⟩ = some (.int .i64 x190001_3) ∧ w'.cell? ⟨Za, 2, none⟩ = some (.int .i64 x190002_3) ∧ w'.cell? ⟨Za, 3, none⟩ = some (.int .i64 x190003_3) ∧ w'.cell? (ad193.add (((ji18)).toNat * 4)) = some (.int .i64 ((rd_T25 x5_3 (ji18)).f0)) ∧ w'.cell? ⟨(ad193.add (((ji18)).toNat * 4)).block, (ad193.add (((ji18)).toNat * 4)).off + 1, none⟩ = some (.int .i64 ((rd_T25 x5_3 (ji18)).f1)) ∧ w'.cell? ⟨(ad193.add (((ji18)).toNat * 4)).block, (ad193.add (((ji18)).toNat * 4)).off + 2, none⟩ = some (.int .i64 ((rd_T25 x5_3 (ji18)).f2)) ∧ w'.cell? ⟨(ad193.add (((ji18)).toNat * 4)).block, (ad193.add (((ji18)).toNat * 4)).off + 3, none⟩ = some (.int .i64 ((rd_T25 x5_3 (ji18)).f3))) (ds := []) #[false, false, false, false, false, false, false, false, false, false, false, false] (by kernel_rfl) rfl rfl ⟨(blk_cell Zb.out 0).trans rfl, (blk_cell Zb.out 1).trans rfl, (blk_cell Zb.out 2).trans rfl, (blk_cell Zb.out 3).trans rfl, hx193_0, hx193_1, hx193_2, hx193_3⟩ (fun hHeld => ?_); refine with_tabW spec_ChainOf.tab10 spec_ChainOf.bits10 (fun HT_ HW_ => ?_)
                                generalize wr.drew = w26 at HO_5 Zb HB hx193_0 hx193_1 hx193_2 hx193_3 hHeld ⊢
                                refine pure_ (i := 0) (N := some 37) (v := ?_) (a' := ?_) #[true, false, false, false, false, false, false, false, false, false, false, false] rfl rfl (any_of HT_.out (by kernel_rfl)) (fun _ _ _ h => h) (Or.inl ⟨by rfl, ?_⟩) ?_ ?_
                                rotate_left
                                · intro w'
                                  go_simp
                                  with_reducible rfl
                                rotate_left
                                · simp only [Act.put, List.setIfInBounds_toArray, List.set_cons_zero, List.set_cons_succ, i64_w, i32_w]
                                  rfl
                                refine pure_ (i := 1) (N := some 38) (v := ?_) (a' := ?_) #[true, true, false, false, false, false, false, false, false, false, false, false] rfl rfl (any_of HT_.out (by kernel_rfl)) (fun _ _ _ h => h) (Or.inl ⟨by rfl, ?_⟩) ?_ ?_
                                rotate_left
                                · intro w'
                                  go_simp
                                  with_reducible rfl
                                rotate_left
                                · simp only [Act.put, List.setIfInBounds_toArray, List.set_cons_zero, List.set_cons_succ, i64_w, i32_w]
                                  rfl
                                refine pure_ (i := 2) (N := some 39) (v := ?_) (a' := ?_) #[true, true, true, false, false, false, false, false, false, false, false, false] rfl rfl (any_of HT_.out (by kernel_rfl)) (fun _ _ _ h => h) (Or.inl ⟨by rfl, ?_⟩) ?_ ?_
                                rotate_left
                                · intro w'
                                  go_simp
                                  with_reducible rfl
                                rotate_left
                                · simp only [Act.put, List.setIfInBounds_toArray, List.set_cons_zero, List.set_cons_succ, i64_w, i32_w]
                                  rfl
                                refine pure_ (i := 3) (N := some 40) (v := ?_) (a' := ?_) #[true, true, true, true, false, false, false, false, false, false, false, false] rfl rfl (any_of HT_.out (by kernel_rfl)) (fun _ _ _ h => h) (Or.inl ⟨by rfl, ?_⟩) ?_ ?_
                                rotate_left
                                · intro w'
                                  go_simp
                                  with_reducible rfl
                                rotate_left
                                · simp only [Act.put, List.setIfInBounds_toArray, List.set_cons_zero, List.set_cons_succ, i64_w, i32_w]
                                  rfl
                                refine pure_ (i := 4) (N := some 41) (v := ?_) (a' := ?_) #[true, true, true, true, true, false, false, false, false, false, false, false] rfl rfl (any_of HT_.out (by kernel_rfl)) (fun _ _ _ h => h) (Or.inl ⟨by rfl, ?_⟩) ?_ ?_
                                rotate_left
                                · intro w'
                                  go_simp
                                  with_reducible rfl
                                rotate_left
                                · simp only [Act.put, List.setIfInBounds_toArray, List.set_cons_zero, List.set_cons_succ, i64_w, i32_w]
                                  rfl
                                refine pure_ (i := 5) (N := some 42) (v := ?_) (a' := ?_) #[true, true, true, true, true, true, false, false, false, false, false, false] rfl rfl (any_of HT_.out (by kernel_rfl)) (fun _ _ _ h => h) (Or.inl ⟨by rfl, ?_⟩) ?_ ?_
                                rotate_left
                                · intro w'
                                  go_simp
                                  with_reducible rfl
                                rotate_left
                                · simp only [Act.put, List.setIfInBounds_toArray, List.set_cons_zero, List.set_cons_succ, i64_w, i32_w]
                                  rfl
                                refine pure_ (i := 6) (N := some 43) (v := ?_) (a' := ?_) #[true, true, true, true, true, true, true, false, false, false, false, false] rfl rfl (any_of HT_.out (by kernel_rfl)) (fun _ _ _ h => h) (Or.inl ⟨by rfl, ?_⟩) ?_ ?_
                                rotate_left
                                · intro w'
                                  go_simp
                                  with_reducible rfl
                                rotate_left
                                · simp only [Act.put, List.setIfInBounds_toArray, List.set_cons_zero, List.set_cons_succ, i64_w, i32_w]
                                  rfl
                                refine take_ (i := 7) (N := some 44) (v := ?_) (a' := ?_) #[true, true, true, true, true, true, true, true, false, false, false, false] rfl rfl (take_ofW HT_.out HW_.out (by kernel_rfl)) (fun _ _ _ h => h) (Or.inl ⟨by rfl, ?_⟩) hHeld ?_ ?_
                                rotate_left
                                · rintro w' ⟨s0, s1, s2, s3, s4, s5, s6, s7⟩
                                  go_simp
                                  with_reducible rfl
                                rotate_left
                                · simp only [Act.put, List.setIfInBounds_toArray, List.set_cons_zero, List.set_cons_succ, i64_w, i32_w]
                                  rfl
                                refine take_ (i := 8) (N := some 45) (v := ?_) (a' := ?_) #[true, true, true, true, true, true, true, true, true, false, false, false] rfl rfl (take_ofW HT_.out HW_.out (by kernel_rfl)) (fun _ _ _ h => h) (Or.inl ⟨by rfl, ?_⟩) hHeld ?_ ?_
                                rotate_left
                                · rintro w' ⟨s0, s1, s2, s3, s4, s5, s6, s7⟩
                                  go_simp
                                  with_reducible rfl
                                rotate_left
                                · simp only [Act.put, List.setIfInBounds_toArray, List.set_cons_zero, List.set_cons_succ, i64_w, i32_w]
                                  rfl
                                refine one_ (i := 9) (N := some 46) #[true, true, true, true, true, true, true, true, true, true, false, false] rfl rfl (one_of HT_.out (by kernel_rfl)) (by decide) (fun K hK => ?_)
                                refine goes_ Try.func53 (by kernel_rfl) rfl #[.agg #[.int .i64 ((rd_T25 x5_3 (ji18)).f0), .int .i64 ((rd_T25 x5_3 (ji18)).f1), .int .i64 ((rd_T25 x5_3 (ji18)).f2), .int .i64 ((rd_T25 x5_3 (ji18)).f3)], .agg #[.int .i64 x190000_3, .int .i64 x190001_3, .int .i64 x190002_3, .int .i64 x190003_3]] (by rfl) rfl rfl (by (try simp only [List.map_toArray, List.map_cons, List.map_nil]); first | done | (simp only [hji18]; rfl) | rfl | (simp only [List.length_drop, List.length_take]; rfl)) ?_
                                with_reducible refine (spec_CompareIntervals.calls k3 ((rd_T25 x5_3 (ji18)).f0) ((rd_T25 x5_3 (ji18)).f1) ((rd_T25 x5_3 (ji18)).f2) ((rd_T25 x5_3 (ji18)).f3) x190000_3 x190001_3 x190002_3 x190003_3 t194 _ A21.out).mono ?_
                                rintro e w28 ⟨rfl, hb⟩
                                have HS4_ := (hb.cell (World.block_lt_of_cell? _ _ (hHeld.2.2.2.2.1))).trans (hHeld.2.2.2.2.1)
                                have HS5_ := (hb.cell (World.block_lt_of_cell? _ _ (hHeld.2.2.2.2.2.1))).trans (hHeld.2.2.2.2.2.1)
                                have HS6_ := (hb.cell (World.block_lt_of_cell? _ _ (hHeld.2.2.2.2.2.2.1))).trans (hHeld.2.2.2.2.2.2.1)
                                have HS7_ := (hb.cell (World.block_lt_of_cell? _ _ (hHeld.2.2.2.2.2.2.2))).trans (hHeld.2.2.2.2.2.2.2)
                                refine ⟨_, rfl, ?_⟩
                                have n0_ := mA (Kd.R_below (by (with_reducible repeat (first | apply Kd.R_alloc | apply Kd.R_drewN | apply Kd.R_drew)); exact HO_5.out) hb)
                                have n1_ := mA (blk_below (g := Za) (o := cQ25 x190000_3 x190001_3 x190002_3 x190003_3) Zb.out hb)
                                have n2_ := mA (below_step (by repeat (first | (with_reducible first | exact HB.out | apply below_alloc | apply pw_below_drewN | apply below_drew1 | refine below_set ?_ Zd.out) | exact HB.out)) hb)
                                clear HO_5
                                clear Zb
                                clear HB
                                have HO_5 := n0_
                                have Zb := n1_
                                have HB := n2_
                                clear n0_ n1_ n2_
                                (try clear hb)
                                (try clear hb2)
                                (try clear hk)
                                (try clear hi)
                                refine hK.out _ _ ⟨(blk_cell Zb.out 0).trans rfl, (blk_cell Zb.out 1).trans rfl, (blk_cell Zb.out 2).trans rfl, (blk_cell Zb.out 3).trans rfl, HS4_, HS5_, HS6_, HS7_⟩ (fun hHeld => ?_)
                                clear hK K
                                refine norm_ (a' := ?_) ?_ ?_
                                rotate_left
                                · show Act.put _ (some 46) _ = _
                                  simp only [Act.put, List.setIfInBounds_toArray, List.set_cons_zero, List.set_cons_succ, i64_w, i32_w]
                                  rfl
                                refine pure_ (i := 10) (N := some 47) (v := ?_) (a' := ?_) #[true, true, true, true, true, true, true, true, true, true, true, false] rfl rfl (any_of HT_.out (by kernel_rfl)) (fun _ _ _ h => h) (Or.inl ⟨by rfl, ?_⟩) ?_ ?_
                                rotate_left
                                · intro w'
                                  go_simp
                                  with_reducible rfl
                                rotate_left
                                · simp only [Act.put, List.setIfInBounds_toArray, List.set_cons_zero, List.set_cons_succ, i64_w, i32_w]
                                  rfl
                                refine pure_ (i := 11) (N := some 48) (v := ?_) (a' := ?_) #[true, true, true, true, true, true, true, true, true, true, true, true] rfl rfl (any_of HT_.out (by kernel_rfl)) (fun _ _ _ h => h) (Or.inl ⟨by rfl, ?_⟩) ?_ ?_
                                rotate_left
                                · intro w'
                                  go_simp
                                  with_reducible rfl
                                rotate_left
                                · simp only [Act.put, List.setIfInBounds_toArray, List.set_cons_zero, List.set_cons_succ, i64_w, i32_w]
                                  rfl
                                refine done_ (done_of HT_.out (by kernel_rfl)) ?_
                                have p195 : 0 ≤ ((ji18) : Int) := of_decide_eq_true (by first | (with_reducible assumption) | assumption)
                                have q195 : (ji18) < (x5_3.length : Int) := of_decide_eq_true (by first | (with_reducible assumption) | assumption)
                                obtain ⟨ad195, e195, hx195_0, hx195_1, hx195_2, hx195_3⟩ := at_T25 (Kd.R_reads' HO_5.out).2.2 (ji18) p195 q195
                                obtain rfl : ad193 = ad195 := (by injection e195)
                                replace p195 := eq_true p195
                                replace q195 := eq_true q195
                                have p25 : 0 ≤ (x9_3 : Int) := of_decide_eq_true (by first | (with_reducible assumption) | assumption)
                                have q25 : (x9_3 : Int) < ((x5_3.length : Int) : Int) := of_decide_eq_true (by first | (with_reducible assumption) | assumption)
                                obtain ⟨go25, co25, eo25, Zn, gl25, cl25, HG25⟩ := Kd.R_form HO_5.out (by omega)
                                (first | cases eo25 | (injection eo25 with ea_ en_ ec_; (first | subst ea_ | (injection ea_ with ea_; subst ea_)); subst ec_; clear en_))
                                have GB25 := mA Zn
                                have GG25 := mA HG25
                                clear Zn gl25 HG25
                                (first | simp only [add_plain] at hx193_0 | skip)
                                (first | simp only [add_plain] at hx193_1 | skip)
                                (first | simp only [add_plain] at hx193_2 | skip)
                                (first | simp only [add_plain] at hx193_3 | skip)
                                (first | simp only [add_plain] at hx195_0 | skip)
                                (first | simp only [add_plain] at hx195_1 | skip)
                                (first | simp only [add_plain] at hx195_2 | skip)
                                (first | simp only [add_plain] at hx195_3 | skip)
                                obtain ⟨ce25, hcl25, hM25, hcc25, hfr25⟩ := Kd.R_elem HO_5.out z25 (x9_3 : Int) p25 q25
                                obtain rfl := k25_openM hM25
                                have hx25_0 : w28.cell? ⟨go25, (x9_3 : Int).toNat * 4, none⟩ = some (.int .i64 ((rd_T25 x5_3 x9_3).f0)) := hcc25 0 _ rfl
                                have hx25_1 : w28.cell? ⟨go25, (x9_3 : Int).toNat * 4 + 1, none⟩ = some (.int .i64 ((rd_T25 x5_3 x9_3).f1)) := hcc25 1 _ rfl
                                have hx25_2 : w28.cell? ⟨go25, (x9_3 : Int).toNat * 4 + 2, none⟩ = some (.int .i64 ((rd_T25 x5_3 x9_3).f2)) := hcc25 2 _ rfl
                                have hx25_3 : w28.cell? ⟨go25, (x9_3 : Int).toNat * 4 + 3, none⟩ = some (.int .i64 ((rd_T25 x5_3 x9_3).f3)) := hcc25 3 _ rfl
                                have hf25_0 : w28.frozen? ⟨go25, (x9_3 : Int).toNat * 4, none⟩ = false := hfr25 0
                                have hf25_1 : w28.frozen? ⟨go25, (x9_3 : Int).toNat * 4 + 1, none⟩ = false := hfr25 1
                                have hf25_2 : w28.frozen? ⟨go25, (x9_3 : Int).toNat * 4 + 2, none⟩ = false := hfr25 2
                                have hf25_3 : w28.frozen? ⟨go25, (x9_3 : Int).toNat * 4 + 3, none⟩ = false := hfr25 3
                                clear hcl25 hcc25 hfr25 hM25
                                replace p25 := eq_true p25
                                replace q25 := eq_true q25
                                have HX29 := mA (show Kd.R k25 25 w28 w.heap.size (fun k_ => k_ ≠ Za) (.slice (some ⟨go25, 0, none⟩) x5_3.length co27) x5_3 from (by (with_reducible repeat (first | apply Kd.R_alloc | apply Kd.R_drewN | apply Kd.R_drew)); exact HO_5.out))
                                obtain ⟨ce29, hcl29, hM29, hcc29, hfr29⟩ := Kd.R_elem HX29.out z25 (x9_3 : Int) (of_decide_eq_true (by first | (with_reducible assumption) | assumption)) (by have h_ : (x9_3 : Int) < ((x5_3.length : Int) : Int) := of_decide_eq_true (by first | (with_reducible assumption) | assumption); first | exact h_ | (have e_ := (Kd.R_reads' HO_5.out).1; omega) | simpa using h_)
                                obtain rfl := k25_openM hM29
                                have HP29 := Kd.R_seg HX29.out (x9_3 : Int) (of_decide_eq_true (by first | (with_reducible assumption) | assumption)) (by have h_ : (x9_3 : Int) < ((x5_3.length : Int) : Int) := of_decide_eq_true (by first | (with_reducible assumption) | assumption); first | exact h_ | (have e_ := (Kd.R_reads' HO_5.out).1; omega) | simpa using h_) (seg := [.int .i64 ((rd_T25 x5_3 (ji18)).f0), .int .i64 ((rd_T25 x5_3 (ji18)).f1), .int .i64 ((rd_T25 x5_3 (ji18)).f2), .int .i64 ((rd_T25 x5_3 (ji18)).f3)]) (j := 0) hcl29 hcc29 (show 4 ≤ 4 from by decide) (x' := (⟨(rd_T25 x5_3 (ji18)).f0, (rd_T25 x5_3 (ji18)).f1, (rd_T25 x5_3 (ji18)).f2, (rd_T25 x5_3 (ji18)).f3⟩ : S25)) (k25_mkM _ _ _ (⟨(rd_T25 x5_3 (ji18)).f0, (rd_T25 x5_3 (ji18)).f1, (rd_T25 x5_3 (ji18)).f2, (rd_T25 x5_3 (ji18)).f3⟩ : S25) ) (fun _ hk => hk)
                                have hx29_0 := hcc29 0 _ rfl
                                (try simp only [show (k25).sz = 4 from rfl, Nat.mul_one, Nat.add_zero] at hx29_0)
                                have hf29_0 := hfr29 0
                                (try simp only [show (k25).sz = 4 from rfl, Nat.mul_one, Nat.add_zero] at hf29_0)
                                have hx29_1 := hcc29 1 _ rfl
                                (try simp only [show (k25).sz = 4 from rfl, Nat.mul_one, Nat.add_zero] at hx29_1)
                                have hf29_1 := hfr29 1
                                (try simp only [show (k25).sz = 4 from rfl, Nat.mul_one, Nat.add_zero] at hf29_1)
                                have hx29_2 := hcc29 2 _ rfl
                                (try simp only [show (k25).sz = 4 from rfl, Nat.mul_one, Nat.add_zero] at hx29_2)
                                have hf29_2 := hfr29 2
                                (try simp only [show (k25).sz = 4 from rfl, Nat.mul_one, Nat.add_zero] at hf29_2)
                                have hx29_3 := hcc29 3 _ rfl
                                (try simp only [show (k25).sz = 4 from rfl, Nat.mul_one, Nat.add_zero] at hx29_3)
                                have hf29_3 := hfr29 3
                                (try simp only [show (k25).sz = 4 from rfl, Nat.mul_one, Nat.add_zero] at hf29_3)
                                clear hcl29 hcc29 hfr29 hM29
                                try go_wp2_with (first | ((with_reducible refine gate_store (t := 25) (p := 56) rfl ?_); refine store_event (t := 25) (p := 56) (v := ?vo_w30) (w1 := ((((w28.setCell ⟨go25, (x9_3 : Int).toNat * 4, none⟩ (.int .i64 ((rd_T25 x5_3 (ji18)).f0))).setCell ⟨go25, (x9_3 : Int).toNat * 4 + 1, none⟩ (.int .i64 ((rd_T25 x5_3 (ji18)).f1))).setCell ⟨go25, (x9_3 : Int).toNat * 4 + 2, none⟩ (.int .i64 ((rd_T25 x5_3 (ji18)).f2))).setCell ⟨go25, (x9_3 : Int).toNat * 4 + 3, none⟩ (.int .i64 ((rd_T25 x5_3 (ji18)).f3)))) ?hg ?ho ?hn ?hr ?_; (case ho => rfl); (case hg => rfl); (case hn => rfl); (case hr => first | (go_simp; done) | (go_simp; rfl)); intro w30 hw; have hg : w28.grownBy w30 (some go25) := (by rw [hw]; exact HP29.2); have hp_ : Kd.R k25 25 w30 w.heap.size (fun k_ => k_ ≠ Za) (.slice (some ⟨go25, 0, none⟩) x5_3.length co27) y196 := (by rw [hw, Ny196.out]; exact HP29.1); clear HP29; have n0_ := mA (hp_); have n1_ := mA (blk_grown (g := Za) (o := cQ25 x190000_3 x190001_3 x190002_3 x190003_3) Zb.out hg (Kd.R_away HO_5.out (fun _ hk => hk))); have n2_ := mA ((by rw [hw]; exact below_set (below_set (below_set (below_set (HB.out) GB25.out) GB25.out) GB25.out) GB25.out : Below w.heap.size w w30)); clear HO_5; clear Zb; clear HB; have HO_5 := n0_; have Zb := n1_; have HB := n2_; clear n0_ n1_ n2_; clear hg hw hp_))
                                go_roundg k3
                                case measure => have := HJ2.out; have := HK2.out; have := HK3.out; omega
                                case rel => exact ⟨(y196), (ji18), (x190000_3), (x190001_3), (x190002_3), (x190003_3), (by first | rfl | (simp; done) | (simp only [← hji18] <;> (first | rfl | simp)) | (simp [*]; done)), H', ⟨by have := HJ2.out; have := HK2.out; have := HK3.out; omega⟩, ⟨by (with_reducible repeat (first | apply Kd.R_alloc | apply Kd.R_drewN | apply Kd.R_drew)); exact HO_5.out⟩, ⟨by (with_reducible repeat (first | refine blk_drewN ?_ _ | refine blk_drew ?_ | refine blk_alloc ?_ _)); exact Zb.out⟩, ⟨by repeat (first | (with_reducible first | exact HB.out | apply below_alloc | apply pw_below_drewN | apply below_drew1 | refine below_set ?_ Zd.out) | exact HB.out)⟩⟩
                              · rw [if_neg c24] at H
                                exact absurd H (by simp)
                            · rw [if_neg c23] at H
                              exact absurd H (by simp)
                          · rw [if_neg c22] at H
                            have c22b0 : decide (0 < t194) = false := decide_eq_false c22
                            clear c22
                            by_cases c31 : 0 ≤ x9_3
                            · rw [if_pos c31] at H
                              have c31b0 : decide (0 ≤ x9_3) = true := decide_eq_true c31
                              clear c31
                              by_cases c32 : x9_3 < (x5_3.length : Int)
                              · rw [if_pos c32] at H
                                have c32b0 : decide (x9_3 < (x5_3.length : Int)) = true := decide_eq_true c32
                                clear c32
                                obtain ⟨y197, hy197⟩ : ∃ y_ : List (S25), y_ = (x5_3.set (x9_3 : Int).toNat (⟨x190000_3, x190001_3, x190002_3, x190003_3⟩ : S25)) := ⟨_, rfl⟩
                                replace H : (spec_ChainOf.l0 k3 a1 y197 (wrap64 (x6_2 + 1))) = some r := by first | (rw [hy197]; with_reducible exact H) | (have H2_ := (Option.bind_some _ _).symm.trans H; rw [hy197]; with_reducible exact H2_) | (have H2_ := (Option.bind_some _ _).symm.trans H; with_reducible exact H2_) | with_reducible exact H | (rw [hy197]; exact H) | exact H
                                have Ny197 := mA hy197
                                clear hy197
                                have H' := mA H
                                clear H
                                try go_wp2
                                have n0_ := mA (Kd.R_drew HO_5.out)
                                have n1_ := mA (blk_drew Zb.out)
                                have n2_ := mA (below_drew1 HB.out)
                                clear HO_5
                                clear Zb
                                clear HB
                                have HO_5 := n0_
                                have Zb := n1_
                                have HB := n2_
                                clear n0_ n1_ n2_
                                obtain ⟨Ao35, co35, eo35⟩ := Kd.R_slice HO_5.out
                                (first | subst eo35 | (injection eo35 with f1_ f2_ f3_; have f4_ := f1_.symm; have f5_ := f3_.symm; clear f1_ f2_ f3_; subst f4_; subst f5_))
                                have p193 : 0 ≤ ((ji18) : Int) := of_decide_eq_true (by first | (with_reducible assumption) | assumption)
                                have q193 : (ji18) < (x5_3.length : Int) := of_decide_eq_true (by first | (with_reducible assumption) | assumption)
                                obtain ⟨ad193, e193, hx193_0, hx193_1, hx193_2, hx193_3⟩ := at_T25 (Kd.R_reads' HO_5.out).2.2 (ji18) p193 q193
                                cases e193
                                replace p193 := eq_true p193
                                replace q193 := eq_true q193
                                refine start_ (n := 12) (S := fun w' => w'.cell? ⟨Za, 0, none⟩ = some (.int .i64 x190000_3) ∧ w'.cell? ⟨Za, 1, none⟩ = some (.int .i64 x190001_3) ∧ w'.cell? ⟨Za, 2, none⟩ = some (.int .i64 x190002_3) ∧ w'.cell? ⟨Za, 3, none⟩ = some (.int .i64 x190003_3) ∧ w'.cell? (ad193.add (((ji18)).toNat * 4)) = some (.int .i64 ((rd_T25 x5_3 (ji18)).f0)) ∧ w'.cell? ⟨(ad193.add (((ji18)).toNat * 4)).block, (ad193.add (((ji18)).toNat * 4)).off + 1, none⟩ = some (.int .i64 ((rd_T25 x5_3 (ji18)).f1)) ∧ w'.cell? ⟨(ad193.add (((ji18)).toNat * 4)).block, (ad193.add (((ji18)).toNat * 4)).off + 2, none⟩ = some (.int .i64 ((rd_T25 x5_3 (ji18)).f2)) ∧ w'.cell? ⟨(ad193.add (((ji18)).toNat * 4)).block, (ad193.add (((ji18)).toNat * 4)).off + 3, none⟩ = some (.int .i64 ((rd_T25 x5_3 (ji18)).f3))) (ds := []) #[false, false, false, false, false, false, false, false, false, false, false, false] (by kernel_rfl) rfl rfl ⟨(blk_cell Zb.out 0).trans rfl, (blk_cell Zb.out 1).trans rfl, (blk_cell Zb.out 2).trans rfl, (blk_cell Zb.out 3).trans rfl, hx193_0, hx193_1, hx193_2, hx193_3⟩ (fun hHeld => ?_); refine with_tabW spec_ChainOf.tab10 spec_ChainOf.bits10 (fun HT_ HW_ => ?_)
                                generalize wr.drew = w34 at HO_5 Zb HB hx193_0 hx193_1 hx193_2 hx193_3 hHeld ⊢
                                refine pure_ (i := 0) (N := some 37) (v := ?_) (a' := ?_) #[true, false, false, false, false, false, false, false, false, false, false, false] rfl rfl (any_of HT_.out (by kernel_rfl)) (fun _ _ _ h => h) (Or.inl ⟨by rfl, ?_⟩) ?_ ?_
                                rotate_left
                                · intro w'
                                  go_simp
                                  with_reducible rfl
                                rotate_left
                                · simp only [Act.put, List.setIfInBounds_toArray, List.set_cons_zero, List.set_cons_succ, i64_w, i32_w]
                                  rfl
                                refine pure_ (i := 1) (N := some 38) (v := ?_) (a' := ?_) #[true, true, false, false, false, false, false, false, false, false, false, false] rfl rfl (any_of HT_.out (by kernel_rfl)) (fun _ _ _ h => h) (Or.inl ⟨by rfl, ?_⟩) ?_ ?_
                                rotate_left
                                · intro w'
                                  go_simp
                                  with_reducible rfl
                                rotate_left
                                · simp only [Act.put, List.setIfInBounds_toArray, List.set_cons_zero, List.set_cons_succ, i64_w, i32_w]
                                  rfl
                                refine pure_ (i := 2) (N := some 39) (v := ?_) (a' := ?_) #[true, true, true, false, false, false, false, false, false, false, false, false] rfl rfl (any_of HT_.out (by kernel_rfl)) (fun _ _ _ h => h) (Or.inl ⟨by rfl, ?_⟩) ?_ ?_
                                rotate_left
                                · intro w'
                                  go_simp
                                  with_reducible rfl
                                rotate_left
                                · simp only [Act.put, List.setIfInBounds_toArray, List.set_cons_zero, List.set_cons_succ, i64_w, i32_w]
                                  rfl
                                refine pure_ (i := 3) (N := some 40) (v := ?_) (a' := ?_) #[true, true, true, true, false, false, false, false, false, false, false, false] rfl rfl (any_of HT_.out (by kernel_rfl)) (fun _ _ _ h => h) (Or.inl ⟨by rfl, ?_⟩) ?_ ?_
                                rotate_left
                                · intro w'
                                  go_simp
                                  with_reducible rfl
                                rotate_left
                                · simp only [Act.put, List.setIfInBounds_toArray, List.set_cons_zero, List.set_cons_succ, i64_w, i32_w]
                                  rfl
                                refine pure_ (i := 4) (N := some 41) (v := ?_) (a' := ?_) #[true, true, true, true, true, false, false, false, false, false, false, false] rfl rfl (any_of HT_.out (by kernel_rfl)) (fun _ _ _ h => h) (Or.inl ⟨by rfl, ?_⟩) ?_ ?_
                                rotate_left
                                · intro w'
                                  go_simp
                                  with_reducible rfl
                                rotate_left
                                · simp only [Act.put, List.setIfInBounds_toArray, List.set_cons_zero, List.set_cons_succ, i64_w, i32_w]
                                  rfl
                                refine pure_ (i := 5) (N := some 42) (v := ?_) (a' := ?_) #[true, true, true, true, true, true, false, false, false, false, false, false] rfl rfl (any_of HT_.out (by kernel_rfl)) (fun _ _ _ h => h) (Or.inl ⟨by rfl, ?_⟩) ?_ ?_
                                rotate_left
                                · intro w'
                                  go_simp
                                  with_reducible rfl
                                rotate_left
                                · simp only [Act.put, List.setIfInBounds_toArray, List.set_cons_zero, List.set_cons_succ, i64_w, i32_w]
                                  rfl
                                refine pure_ (i := 6) (N := some 43) (v := ?_) (a' := ?_) #[true, true, true, true, true, true, true, false, false, false, false, false] rfl rfl (any_of HT_.out (by kernel_rfl)) (fun _ _ _ h => h) (Or.inl ⟨by rfl, ?_⟩) ?_ ?_
                                rotate_left
                                · intro w'
                                  go_simp
                                  with_reducible rfl
                                rotate_left
                                · simp only [Act.put, List.setIfInBounds_toArray, List.set_cons_zero, List.set_cons_succ, i64_w, i32_w]
                                  rfl
                                refine take_ (i := 7) (N := some 44) (v := ?_) (a' := ?_) #[true, true, true, true, true, true, true, true, false, false, false, false] rfl rfl (take_ofW HT_.out HW_.out (by kernel_rfl)) (fun _ _ _ h => h) (Or.inl ⟨by rfl, ?_⟩) hHeld ?_ ?_
                                rotate_left
                                · rintro w' ⟨s0, s1, s2, s3, s4, s5, s6, s7⟩
                                  go_simp
                                  with_reducible rfl
                                rotate_left
                                · simp only [Act.put, List.setIfInBounds_toArray, List.set_cons_zero, List.set_cons_succ, i64_w, i32_w]
                                  rfl
                                refine take_ (i := 8) (N := some 45) (v := ?_) (a' := ?_) #[true, true, true, true, true, true, true, true, true, false, false, false] rfl rfl (take_ofW HT_.out HW_.out (by kernel_rfl)) (fun _ _ _ h => h) (Or.inl ⟨by rfl, ?_⟩) hHeld ?_ ?_
                                rotate_left
                                · rintro w' ⟨s0, s1, s2, s3, s4, s5, s6, s7⟩
                                  go_simp
                                  with_reducible rfl
                                rotate_left
                                · simp only [Act.put, List.setIfInBounds_toArray, List.set_cons_zero, List.set_cons_succ, i64_w, i32_w]
                                  rfl
                                refine one_ (i := 9) (N := some 46) #[true, true, true, true, true, true, true, true, true, true, false, false] rfl rfl (one_of HT_.out (by kernel_rfl)) (by decide) (fun K hK => ?_)
                                refine goes_ Try.func53 (by kernel_rfl) rfl #[.agg #[.int .i64 ((rd_T25 x5_3 (ji18)).f0), .int .i64 ((rd_T25 x5_3 (ji18)).f1), .int .i64 ((rd_T25 x5_3 (ji18)).f2), .int .i64 ((rd_T25 x5_3 (ji18)).f3)], .agg #[.int .i64 x190000_3, .int .i64 x190001_3, .int .i64 x190002_3, .int .i64 x190003_3]] (by rfl) rfl rfl (by (try simp only [List.map_toArray, List.map_cons, List.map_nil]); first | done | (simp only [hji18]; rfl) | rfl | (simp only [List.length_drop, List.length_take]; rfl)) ?_
                                with_reducible refine (spec_CompareIntervals.calls k3 ((rd_T25 x5_3 (ji18)).f0) ((rd_T25 x5_3 (ji18)).f1) ((rd_T25 x5_3 (ji18)).f2) ((rd_T25 x5_3 (ji18)).f3) x190000_3 x190001_3 x190002_3 x190003_3 t194 _ A21.out).mono ?_
                                rintro e w36 ⟨rfl, hb⟩
                                have HS4_ := (hb.cell (World.block_lt_of_cell? _ _ (hHeld.2.2.2.2.1))).trans (hHeld.2.2.2.2.1)
                                have HS5_ := (hb.cell (World.block_lt_of_cell? _ _ (hHeld.2.2.2.2.2.1))).trans (hHeld.2.2.2.2.2.1)
                                have HS6_ := (hb.cell (World.block_lt_of_cell? _ _ (hHeld.2.2.2.2.2.2.1))).trans (hHeld.2.2.2.2.2.2.1)
                                have HS7_ := (hb.cell (World.block_lt_of_cell? _ _ (hHeld.2.2.2.2.2.2.2))).trans (hHeld.2.2.2.2.2.2.2)
                                refine ⟨_, rfl, ?_⟩
                                have n0_ := mA (Kd.R_below (by (with_reducible repeat (first | apply Kd.R_alloc | apply Kd.R_drewN | apply Kd.R_drew)); exact HO_5.out) hb)
                                have n1_ := mA (blk_below (g := Za) (o := cQ25 x190000_3 x190001_3 x190002_3 x190003_3) Zb.out hb)
                                have n2_ := mA (below_step (by repeat (first | (with_reducible first | exact HB.out | apply below_alloc | apply pw_below_drewN | apply below_drew1 | refine below_set ?_ Zd.out) | exact HB.out)) hb)
                                clear HO_5
                                clear Zb
                                clear HB
                                have HO_5 := n0_
                                have Zb := n1_
                                have HB := n2_
                                clear n0_ n1_ n2_
                                (try clear hb)
                                (try clear hb2)
                                (try clear hk)
                                (try clear hi)
                                refine hK.out _ _ ⟨(blk_cell Zb.out 0).trans rfl, (blk_cell Zb.out 1).trans rfl, (blk_cell Zb.out 2).trans rfl, (blk_cell Zb.out 3).trans rfl, HS4_, HS5_, HS6_, HS7_⟩ (fun hHeld => ?_)
                                clear hK K
                                refine norm_ (a' := ?_) ?_ ?_
                                rotate_left
                                · show Act.put _ (some 46) _ = _
                                  simp only [Act.put, List.setIfInBounds_toArray, List.set_cons_zero, List.set_cons_succ, i64_w, i32_w]
                                  rfl
                                refine pure_ (i := 10) (N := some 47) (v := ?_) (a' := ?_) #[true, true, true, true, true, true, true, true, true, true, true, false] rfl rfl (any_of HT_.out (by kernel_rfl)) (fun _ _ _ h => h) (Or.inl ⟨by rfl, ?_⟩) ?_ ?_
                                rotate_left
                                · intro w'
                                  go_simp
                                  with_reducible rfl
                                rotate_left
                                · simp only [Act.put, List.setIfInBounds_toArray, List.set_cons_zero, List.set_cons_succ, i64_w, i32_w]
                                  rfl
                                refine pure_ (i := 11) (N := some 48) (v := ?_) (a' := ?_) #[true, true, true, true, true, true, true, true, true, true, true, true] rfl rfl (any_of HT_.out (by kernel_rfl)) (fun _ _ _ h => h) (Or.inl ⟨by rfl, ?_⟩) ?_ ?_
                                rotate_left
                                · intro w'
                                  go_simp
                                  with_reducible rfl
                                rotate_left
                                · simp only [Act.put, List.setIfInBounds_toArray, List.set_cons_zero, List.set_cons_succ, i64_w, i32_w]
                                  rfl
                                refine done_ (done_of HT_.out (by kernel_rfl)) ?_
                                have Zp : w36.cell? ⟨Za, 0, none⟩ = some (.int .i64 x190000_3) := (blk_cell Zb.out 0).trans rfl
                                have Zq : w36.cell? ⟨Za, 1, none⟩ = some (.int .i64 x190001_3) := (blk_cell Zb.out 1).trans rfl
                                have Zr : w36.cell? ⟨Za, 2, none⟩ = some (.int .i64 x190002_3) := (blk_cell Zb.out 2).trans rfl
                                have Zs : w36.cell? ⟨Za, 3, none⟩ = some (.int .i64 x190003_3) := (blk_cell Zb.out 3).trans rfl
                                have Zt := blk_frozen Zb.out 0
                                have Zu := blk_frozen Zb.out 1
                                have Zv := blk_frozen Zb.out 2
                                have Zw := blk_frozen Zb.out 3
                                have p33 : 0 ≤ (x9_3 : Int) := of_decide_eq_true (by first | (with_reducible assumption) | assumption)
                                have q33 : (x9_3 : Int) < ((x5_3.length : Int) : Int) := of_decide_eq_true (by first | (with_reducible assumption) | assumption)
                                obtain ⟨go33, co33, eo33, Zx, gl33, cl33, HG33⟩ := Kd.R_form HO_5.out (by omega)
                                (first | cases eo33 | (injection eo33 with ea_ en_ ec_; (first | subst ea_ | (injection ea_ with ea_; subst ea_)); subst ec_; clear en_))
                                have GB33 := mA Zx
                                have GG33 := mA HG33
                                clear Zx gl33 HG33
                                (first | simp only [add_plain] at hx193_0 | skip)
                                (first | simp only [add_plain] at hx193_1 | skip)
                                (first | simp only [add_plain] at hx193_2 | skip)
                                (first | simp only [add_plain] at hx193_3 | skip)
                                obtain ⟨ce33, hcl33, hM33, hcc33, hfr33⟩ := Kd.R_elem HO_5.out z25 (x9_3 : Int) p33 q33
                                obtain rfl := k25_openM hM33
                                have hx33_0 : w36.cell? ⟨go33, (x9_3 : Int).toNat * 4, none⟩ = some (.int .i64 ((rd_T25 x5_3 x9_3).f0)) := hcc33 0 _ rfl
                                have hx33_1 : w36.cell? ⟨go33, (x9_3 : Int).toNat * 4 + 1, none⟩ = some (.int .i64 ((rd_T25 x5_3 x9_3).f1)) := hcc33 1 _ rfl
                                have hx33_2 : w36.cell? ⟨go33, (x9_3 : Int).toNat * 4 + 2, none⟩ = some (.int .i64 ((rd_T25 x5_3 x9_3).f2)) := hcc33 2 _ rfl
                                have hx33_3 : w36.cell? ⟨go33, (x9_3 : Int).toNat * 4 + 3, none⟩ = some (.int .i64 ((rd_T25 x5_3 x9_3).f3)) := hcc33 3 _ rfl
                                have hf33_0 : w36.frozen? ⟨go33, (x9_3 : Int).toNat * 4, none⟩ = false := hfr33 0
                                have hf33_1 : w36.frozen? ⟨go33, (x9_3 : Int).toNat * 4 + 1, none⟩ = false := hfr33 1
                                have hf33_2 : w36.frozen? ⟨go33, (x9_3 : Int).toNat * 4 + 2, none⟩ = false := hfr33 2
                                have hf33_3 : w36.frozen? ⟨go33, (x9_3 : Int).toNat * 4 + 3, none⟩ = false := hfr33 3
                                clear hcl33 hcc33 hfr33 hM33
                                replace p33 := eq_true p33
                                replace q33 := eq_true q33
                                have HX38 := mA (show Kd.R k25 25 w36 w.heap.size (fun k_ => k_ ≠ Za) (.slice (some ⟨go33, 0, none⟩) x5_3.length co35) x5_3 from (by (with_reducible repeat (first | apply Kd.R_alloc | apply Kd.R_drewN | apply Kd.R_drew)); exact HO_5.out))
                                obtain ⟨ce38, hcl38, hM38, hcc38, hfr38⟩ := Kd.R_elem HX38.out z25 (x9_3 : Int) (of_decide_eq_true (by first | (with_reducible assumption) | assumption)) (by have h_ : (x9_3 : Int) < ((x5_3.length : Int) : Int) := of_decide_eq_true (by first | (with_reducible assumption) | assumption); first | exact h_ | (have e_ := (Kd.R_reads' HO_5.out).1; omega) | simpa using h_)
                                obtain rfl := k25_openM hM38
                                have HP38 := Kd.R_seg HX38.out (x9_3 : Int) (of_decide_eq_true (by first | (with_reducible assumption) | assumption)) (by have h_ : (x9_3 : Int) < ((x5_3.length : Int) : Int) := of_decide_eq_true (by first | (with_reducible assumption) | assumption); first | exact h_ | (have e_ := (Kd.R_reads' HO_5.out).1; omega) | simpa using h_) (seg := [.int .i64 x190000_3, .int .i64 x190001_3, .int .i64 x190002_3, .int .i64 x190003_3]) (j := 0) hcl38 hcc38 (show 4 ≤ 4 from by decide) (x' := (⟨x190000_3, x190001_3, x190002_3, x190003_3⟩ : S25)) (k25_mkM _ _ _ (⟨x190000_3, x190001_3, x190002_3, x190003_3⟩ : S25) ) (fun _ hk => hk)
                                have hx38_0 := hcc38 0 _ rfl
                                (try simp only [show (k25).sz = 4 from rfl, Nat.mul_one, Nat.add_zero] at hx38_0)
                                have hf38_0 := hfr38 0
                                (try simp only [show (k25).sz = 4 from rfl, Nat.mul_one, Nat.add_zero] at hf38_0)
                                have hx38_1 := hcc38 1 _ rfl
                                (try simp only [show (k25).sz = 4 from rfl, Nat.mul_one, Nat.add_zero] at hx38_1)
                                have hf38_1 := hfr38 1
                                (try simp only [show (k25).sz = 4 from rfl, Nat.mul_one, Nat.add_zero] at hf38_1)
                                have hx38_2 := hcc38 2 _ rfl
                                (try simp only [show (k25).sz = 4 from rfl, Nat.mul_one, Nat.add_zero] at hx38_2)
                                have hf38_2 := hfr38 2
                                (try simp only [show (k25).sz = 4 from rfl, Nat.mul_one, Nat.add_zero] at hf38_2)
                                have hx38_3 := hcc38 3 _ rfl
                                (try simp only [show (k25).sz = 4 from rfl, Nat.mul_one, Nat.add_zero] at hx38_3)
                                have hf38_3 := hfr38 3
                                (try simp only [show (k25).sz = 4 from rfl, Nat.mul_one, Nat.add_zero] at hf38_3)
                                clear hcl38 hcc38 hfr38 hM38
                                try go_wp2_with (first | ((with_reducible refine gate_store (t := 25) (p := 62) rfl ?_); refine store_event (t := 25) (p := 62) (v := ?vo_w39) (w1 := ((((w36.setCell ⟨go33, (x9_3 : Int).toNat * 4, none⟩ (.int .i64 x190000_3)).setCell ⟨go33, (x9_3 : Int).toNat * 4 + 1, none⟩ (.int .i64 x190001_3)).setCell ⟨go33, (x9_3 : Int).toNat * 4 + 2, none⟩ (.int .i64 x190002_3)).setCell ⟨go33, (x9_3 : Int).toNat * 4 + 3, none⟩ (.int .i64 x190003_3))) ?hg ?ho ?hn ?hr ?_; (case ho => rfl); (case hg => rfl); (case hn => rfl); (case hr => first | (go_simp; done) | (go_simp; rfl)); intro w39 hw; have hg : w36.grownBy w39 (some go33) := (by rw [hw]; exact HP38.2); have hp_ : Kd.R k25 25 w39 w.heap.size (fun k_ => k_ ≠ Za) (.slice (some ⟨go33, 0, none⟩) x5_3.length co35) y197 := (by rw [hw, Ny197.out]; exact HP38.1); clear HP38; have n0_ := mA (hp_); have n1_ := mA (blk_grown (g := Za) (o := cQ25 x190000_3 x190001_3 x190002_3 x190003_3) Zb.out hg (Kd.R_away HO_5.out (fun _ hk => hk))); have n2_ := mA ((by rw [hw]; exact below_set (below_set (below_set (below_set (HB.out) GB33.out) GB33.out) GB33.out) GB33.out : Below w.heap.size w w39)); clear HO_5; clear Zb; clear HB; have HO_5 := n0_; have Zb := n1_; have HB := n2_; clear n0_ n1_ n2_; clear hg hw hp_))
                                go_roundg k3
                                case measure => have := HJ2.out; have := HK2.out; have := HK3.out; omega
                                case rel => exact ⟨(y197), (wrap64 (x6_2 + 1)), (by first | rfl | (simp; done) | (simp [*]; done)), H', ⟨by have := HJ2.out; have := HK2.out; have := HK3.out; omega⟩, ⟨by (with_reducible repeat (first | apply Kd.R_alloc | apply Kd.R_drewN | apply Kd.R_drew)); exact Kd.R_mono HO_5.out (fun _ hk => trivial)⟩, ⟨by repeat (first | (with_reducible first | exact HB.out | apply below_alloc | apply pw_below_drewN | apply below_drew1 | refine below_set ?_ Zd.out) | exact HB.out)⟩⟩
                              · rw [if_neg c32] at H
                                exact absurd H (by simp)
                            · rw [if_neg c31] at H
                              exact absurd H (by simp)
                        · rw [if_neg c20] at H
                          exact absurd H (by simp)
                      · rw [if_neg c19] at H
                        exact absurd H (by simp)
                    · rw [if_neg c17] at H
                      have c17b0 : decide (0 < x9_3) = false := decide_eq_false c17
                      clear c17
                      by_cases c40 : 0 ≤ x9_3
                      · rw [if_pos c40] at H
                        have c40b0 : decide (0 ≤ x9_3) = true := decide_eq_true c40
                        clear c40
                        by_cases c41 : x9_3 < (x5_3.length : Int)
                        · rw [if_pos c41] at H
                          have c41b0 : decide (x9_3 < (x5_3.length : Int)) = true := decide_eq_true c41
                          clear c41
                          obtain ⟨y198, hy198⟩ : ∃ y_ : List (S25), y_ = (x5_3.set (x9_3 : Int).toNat (⟨x190000_3, x190001_3, x190002_3, x190003_3⟩ : S25)) := ⟨_, rfl⟩
                          replace H : (spec_ChainOf.l0 k3 a1 y198 (wrap64 (x6_2 + 1))) = some r := by first | (rw [hy198]; with_reducible exact H) | (have H2_ := (Option.bind_some _ _).symm.trans H; rw [hy198]; with_reducible exact H2_) | (have H2_ := (Option.bind_some _ _).symm.trans H; with_reducible exact H2_) | with_reducible exact H | (rw [hy198]; exact H) | exact H
                          have Ny198 := mA hy198
                          clear hy198
                          have H' := mA H
                          clear H
                          try go_wp2
                          have n0_ := mA (Kd.R_drew HO_5.out)
                          have n1_ := mA (blk_drew Zb.out)
                          have n2_ := mA (below_drew1 HB.out)
                          clear HO_5
                          clear Zb
                          clear HB
                          have HO_5 := n0_
                          have Zb := n1_
                          have HB := n2_
                          clear n0_ n1_ n2_
                          refine start_ (n := 12) (S := fun w' => True) (ds := []) #[false, false, false, false, false, false, false, false, false, false, false, false] (by kernel_rfl) rfl rfl trivial (fun hHeld => ?_); refine with_tabW spec_ChainOf.tab10 spec_ChainOf.bits10 (fun HT_ HW_ => ?_)
                          generalize wr.drew = w43 at HO_5 Zb HB hHeld ⊢
                          refine pure_ (i := 0) (N := some 37) (v := ?_) (a' := ?_) #[true, false, false, false, false, false, false, false, false, false, false, false] rfl rfl (any_of HT_.out (by kernel_rfl)) (fun _ _ _ h => h) (Or.inl ⟨by rfl, ?_⟩) ?_ ?_
                          rotate_left
                          · intro w'
                            go_simp
                            with_reducible rfl
                          rotate_left
                          · simp only [Act.put, List.setIfInBounds_toArray, List.set_cons_zero, List.set_cons_succ, i64_w, i32_w]
                            rfl
                          refine pure_ (i := 1) (N := some 38) (v := ?_) (a' := ?_) #[true, true, false, false, false, false, false, false, false, false, false, false] rfl rfl (any_of HT_.out (by kernel_rfl)) (fun _ _ _ h => h) (Or.inl ⟨by rfl, ?_⟩) ?_ ?_
                          rotate_left
                          · intro w'
                            go_simp
                            with_reducible rfl
                          rotate_left
                          · simp only [Act.put, List.setIfInBounds_toArray, List.set_cons_zero, List.set_cons_succ, i64_w, i32_w]
                            rfl
                          refine pure_ (i := 2) (N := some 39) (v := ?_) (a' := ?_) #[true, true, true, false, false, false, false, false, false, false, false, false] rfl rfl (any_of HT_.out (by kernel_rfl)) (fun _ _ _ h => h) (Or.inl ⟨by rfl, ?_⟩) ?_ ?_
                          rotate_left
                          · intro w'
                            go_simp
                            with_reducible rfl
                          rotate_left
                          · simp only [Act.put, List.setIfInBounds_toArray, List.set_cons_zero, List.set_cons_succ, i64_w, i32_w]
                            rfl
                          refine pure_ (i := 3) (N := some 40) (v := undef) (a' := ?_) #[true, true, true, true, false, false, false, false, false, false, false, false] rfl rfl (any_of HT_.out (by kernel_rfl)) (fun _ _ _ h => h) (Or.inr ⟨by rfl, rfl⟩) ?_ ?_
                          rotate_left
                          · simp only [Act.put, List.setIfInBounds_toArray, List.set_cons_zero, List.set_cons_succ, i64_w, i32_w]
                            rfl
                          refine pure_ (i := 4) (N := some 41) (v := undef) (a' := ?_) #[true, true, true, true, true, false, false, false, false, false, false, false] rfl rfl (any_of HT_.out (by kernel_rfl)) (fun _ _ _ h => h) (Or.inr ⟨by rfl, rfl⟩) ?_ ?_
                          rotate_left
                          · simp only [Act.put, List.setIfInBounds_toArray, List.set_cons_zero, List.set_cons_succ, i64_w, i32_w]
                            rfl
                          refine pure_ (i := 5) (N := some 42) (v := undef) (a' := ?_) #[true, true, true, true, true, true, false, false, false, false, false, false] rfl rfl (any_of HT_.out (by kernel_rfl)) (fun _ _ _ h => h) (Or.inr ⟨by rfl, rfl⟩) ?_ ?_
                          rotate_left
                          · simp only [Act.put, List.setIfInBounds_toArray, List.set_cons_zero, List.set_cons_succ, i64_w, i32_w]
                            rfl
                          refine pure_ (i := 6) (N := some 43) (v := undef) (a' := ?_) #[true, true, true, true, true, true, true, false, false, false, false, false] rfl rfl (any_of HT_.out (by kernel_rfl)) (fun _ _ _ h => h) (Or.inr ⟨by rfl, rfl⟩) ?_ ?_
                          rotate_left
                          · simp only [Act.put, List.setIfInBounds_toArray, List.set_cons_zero, List.set_cons_succ, i64_w, i32_w]
                            rfl
                          refine pure_ (i := 7) (N := some 44) (v := undef) (a' := ?_) #[true, true, true, true, true, true, true, true, false, false, false, false] rfl rfl (any_of HT_.out (by kernel_rfl)) (fun _ _ _ h => h) (Or.inr ⟨by rfl, rfl⟩) ?_ ?_
                          rotate_left
                          · simp only [Act.put, List.setIfInBounds_toArray, List.set_cons_zero, List.set_cons_succ, i64_w, i32_w]
                            rfl
                          refine pure_ (i := 8) (N := some 45) (v := undef) (a' := ?_) #[true, true, true, true, true, true, true, true, true, false, false, false] rfl rfl (any_of HT_.out (by kernel_rfl)) (fun _ _ _ h => h) (Or.inr ⟨by rfl, rfl⟩) ?_ ?_
                          rotate_left
                          · simp only [Act.put, List.setIfInBounds_toArray, List.set_cons_zero, List.set_cons_succ, i64_w, i32_w]
                            rfl
                          refine pure_ (i := 9) (N := some 46) (v := undef) (a' := ?_) #[true, true, true, true, true, true, true, true, true, true, false, false] rfl rfl (any_of HT_.out (by kernel_rfl)) (fun _ _ _ h => h) (Or.inr ⟨by rfl, rfl⟩) ?_ ?_
                          rotate_left
                          · simp only [Act.put, List.setIfInBounds_toArray, List.set_cons_zero, List.set_cons_succ, i64_w, i32_w]
                            rfl
                          refine pure_ (i := 10) (N := some 47) (v := undef) (a' := ?_) #[true, true, true, true, true, true, true, true, true, true, true, false] rfl rfl (any_of HT_.out (by kernel_rfl)) (fun _ _ _ h => h) (Or.inr ⟨by rfl, rfl⟩) ?_ ?_
                          rotate_left
                          · simp only [Act.put, List.setIfInBounds_toArray, List.set_cons_zero, List.set_cons_succ, i64_w, i32_w]
                            rfl
                          refine pure_ (i := 11) (N := some 48) (v := ?_) (a' := ?_) #[true, true, true, true, true, true, true, true, true, true, true, true] rfl rfl (any_of HT_.out (by kernel_rfl)) (fun _ _ _ h => h) (Or.inl ⟨by rfl, ?_⟩) ?_ ?_
                          rotate_left
                          · intro w'
                            go_simp
                            with_reducible rfl
                          rotate_left
                          · simp only [Act.put, List.setIfInBounds_toArray, List.set_cons_zero, List.set_cons_succ, i64_w, i32_w]
                            rfl
                          refine done_ (done_of HT_.out (by kernel_rfl)) ?_
                          have Zy : w43.cell? ⟨Za, 0, none⟩ = some (.int .i64 x190000_3) := (blk_cell Zb.out 0).trans rfl
                          have Zz : w43.cell? ⟨Za, 1, none⟩ = some (.int .i64 x190001_3) := (blk_cell Zb.out 1).trans rfl
                          have Zba : w43.cell? ⟨Za, 2, none⟩ = some (.int .i64 x190002_3) := (blk_cell Zb.out 2).trans rfl
                          have Zbb : w43.cell? ⟨Za, 3, none⟩ = some (.int .i64 x190003_3) := (blk_cell Zb.out 3).trans rfl
                          have Zbc := blk_frozen Zb.out 0
                          have Zbd := blk_frozen Zb.out 1
                          have Zbe := blk_frozen Zb.out 2
                          have Zbf := blk_frozen Zb.out 3
                          have p42 : 0 ≤ (x9_3 : Int) := of_decide_eq_true (by first | (with_reducible assumption) | assumption)
                          have q42 : (x9_3 : Int) < ((x5_3.length : Int) : Int) := of_decide_eq_true (by first | (with_reducible assumption) | assumption)
                          obtain ⟨go42, co42, eo42, Zbg, gl42, cl42, HG42⟩ := Kd.R_form HO_5.out (by omega)
                          (first | cases eo42 | (injection eo42 with ea_ en_ ec_; (first | subst ea_ | (injection ea_ with ea_; subst ea_)); subst ec_; clear en_))
                          have GB42 := mA Zbg
                          have GG42 := mA HG42
                          clear Zbg gl42 HG42
                          obtain ⟨ce42, hcl42, hM42, hcc42, hfr42⟩ := Kd.R_elem HO_5.out z25 (x9_3 : Int) p42 q42
                          obtain rfl := k25_openM hM42
                          have hx42_0 : w43.cell? ⟨go42, (x9_3 : Int).toNat * 4, none⟩ = some (.int .i64 ((rd_T25 x5_3 x9_3).f0)) := hcc42 0 _ rfl
                          have hx42_1 : w43.cell? ⟨go42, (x9_3 : Int).toNat * 4 + 1, none⟩ = some (.int .i64 ((rd_T25 x5_3 x9_3).f1)) := hcc42 1 _ rfl
                          have hx42_2 : w43.cell? ⟨go42, (x9_3 : Int).toNat * 4 + 2, none⟩ = some (.int .i64 ((rd_T25 x5_3 x9_3).f2)) := hcc42 2 _ rfl
                          have hx42_3 : w43.cell? ⟨go42, (x9_3 : Int).toNat * 4 + 3, none⟩ = some (.int .i64 ((rd_T25 x5_3 x9_3).f3)) := hcc42 3 _ rfl
                          have hf42_0 : w43.frozen? ⟨go42, (x9_3 : Int).toNat * 4, none⟩ = false := hfr42 0
                          have hf42_1 : w43.frozen? ⟨go42, (x9_3 : Int).toNat * 4 + 1, none⟩ = false := hfr42 1
                          have hf42_2 : w43.frozen? ⟨go42, (x9_3 : Int).toNat * 4 + 2, none⟩ = false := hfr42 2
                          have hf42_3 : w43.frozen? ⟨go42, (x9_3 : Int).toNat * 4 + 3, none⟩ = false := hfr42 3
                          clear hcl42 hcc42 hfr42 hM42
                          replace p42 := eq_true p42
                          replace q42 := eq_true q42
                          have HX45 := mA (show Kd.R k25 25 w43 w.heap.size (fun k_ => k_ ≠ Za) (.slice (some ⟨go42, 0, none⟩) x5_3.length co42) x5_3 from (by (with_reducible repeat (first | apply Kd.R_alloc | apply Kd.R_drewN | apply Kd.R_drew)); exact HO_5.out))
                          obtain ⟨ce45, hcl45, hM45, hcc45, hfr45⟩ := Kd.R_elem HX45.out z25 (x9_3 : Int) (of_decide_eq_true (by first | (with_reducible assumption) | assumption)) (by have h_ : (x9_3 : Int) < ((x5_3.length : Int) : Int) := of_decide_eq_true (by first | (with_reducible assumption) | assumption); first | exact h_ | (have e_ := (Kd.R_reads' HO_5.out).1; omega) | simpa using h_)
                          obtain rfl := k25_openM hM45
                          have HP45 := Kd.R_seg HX45.out (x9_3 : Int) (of_decide_eq_true (by first | (with_reducible assumption) | assumption)) (by have h_ : (x9_3 : Int) < ((x5_3.length : Int) : Int) := of_decide_eq_true (by first | (with_reducible assumption) | assumption); first | exact h_ | (have e_ := (Kd.R_reads' HO_5.out).1; omega) | simpa using h_) (seg := [.int .i64 x190000_3, .int .i64 x190001_3, .int .i64 x190002_3, .int .i64 x190003_3]) (j := 0) hcl45 hcc45 (show 4 ≤ 4 from by decide) (x' := (⟨x190000_3, x190001_3, x190002_3, x190003_3⟩ : S25)) (k25_mkM _ _ _ (⟨x190000_3, x190001_3, x190002_3, x190003_3⟩ : S25) ) (fun _ hk => hk)
                          have hx45_0 := hcc45 0 _ rfl
                          (try simp only [show (k25).sz = 4 from rfl, Nat.mul_one, Nat.add_zero] at hx45_0)
                          have hf45_0 := hfr45 0
                          (try simp only [show (k25).sz = 4 from rfl, Nat.mul_one, Nat.add_zero] at hf45_0)
                          have hx45_1 := hcc45 1 _ rfl
                          (try simp only [show (k25).sz = 4 from rfl, Nat.mul_one, Nat.add_zero] at hx45_1)
                          have hf45_1 := hfr45 1
                          (try simp only [show (k25).sz = 4 from rfl, Nat.mul_one, Nat.add_zero] at hf45_1)
                          have hx45_2 := hcc45 2 _ rfl
                          (try simp only [show (k25).sz = 4 from rfl, Nat.mul_one, Nat.add_zero] at hx45_2)
                          have hf45_2 := hfr45 2
                          (try simp only [show (k25).sz = 4 from rfl, Nat.mul_one, Nat.add_zero] at hf45_2)
                          have hx45_3 := hcc45 3 _ rfl
                          (try simp only [show (k25).sz = 4 from rfl, Nat.mul_one, Nat.add_zero] at hx45_3)
                          have hf45_3 := hfr45 3
                          (try simp only [show (k25).sz = 4 from rfl, Nat.mul_one, Nat.add_zero] at hf45_3)
                          clear hcl45 hcc45 hfr45 hM45
                          try go_wp2_with (first | ((with_reducible refine gate_store (t := 25) (p := 62) rfl ?_); refine store_event (t := 25) (p := 62) (v := ?vo_w46) (w1 := ((((w43.setCell ⟨go42, (x9_3 : Int).toNat * 4, none⟩ (.int .i64 x190000_3)).setCell ⟨go42, (x9_3 : Int).toNat * 4 + 1, none⟩ (.int .i64 x190001_3)).setCell ⟨go42, (x9_3 : Int).toNat * 4 + 2, none⟩ (.int .i64 x190002_3)).setCell ⟨go42, (x9_3 : Int).toNat * 4 + 3, none⟩ (.int .i64 x190003_3))) ?hg ?ho ?hn ?hr ?_; (case ho => rfl); (case hg => rfl); (case hn => rfl); (case hr => first | (go_simp; done) | (go_simp; rfl)); intro w46 hw; have hg : w43.grownBy w46 (some go42) := (by rw [hw]; exact HP45.2); have hp_ : Kd.R k25 25 w46 w.heap.size (fun k_ => k_ ≠ Za) (.slice (some ⟨go42, 0, none⟩) x5_3.length co42) y198 := (by rw [hw, Ny198.out]; exact HP45.1); clear HP45; have n0_ := mA (hp_); have n1_ := mA (blk_grown (g := Za) (o := cQ25 x190000_3 x190001_3 x190002_3 x190003_3) Zb.out hg (Kd.R_away HO_5.out (fun _ hk => hk))); have n2_ := mA ((by rw [hw]; exact below_set (below_set (below_set (below_set (HB.out) GB42.out) GB42.out) GB42.out) GB42.out : Below w.heap.size w w46)); clear HO_5; clear Zb; clear HB; have HO_5 := n0_; have Zb := n1_; have HB := n2_; clear n0_ n1_ n2_; clear hg hw hp_))
                          go_roundg k3
                          case measure => have := HJ2.out; have := HK2.out; have := HK3.out; omega
                          case rel => exact ⟨(y198), (wrap64 (x6_2 + 1)), (by first | rfl | (simp; done) | (simp [*]; done)), H', ⟨by have := HJ2.out; have := HK2.out; have := HK3.out; omega⟩, ⟨by (with_reducible repeat (first | apply Kd.R_alloc | apply Kd.R_drewN | apply Kd.R_drew)); exact Kd.R_mono HO_5.out (fun _ hk => trivial)⟩, ⟨by repeat (first | (with_reducible first | exact HB.out | apply below_alloc | apply pw_below_drewN | apply below_drew1 | refine below_set ?_ Zd.out) | exact HB.out)⟩⟩
                        · rw [if_neg c41] at H
                          exact absurd H (by simp)
                      · rw [if_neg c40] at H
                        exact absurd H (by simp)
              · rw [if_neg c11] at H
                exact absurd H (by simp)
            · rw [if_neg c9] at H
              have c9b0 : decide (x6_2 ≤ a1) = false := decide_eq_false c9
              clear c9
              obtain rfl := Option.some.inj H
              go_wp2
              go_ret
              exact ⟨_, by first | rfl | (simp [errW_none, errW_some] <;> rfl) | (simp [*, errW_none, errW_some] <;> rfl), by (with_reducible repeat (first | apply Kd.R_alloc | apply Kd.R_drewN | apply Kd.R_drew)); exact HO_5.out, by repeat (first | (with_reducible first | exact HB.out | apply below_alloc | apply pw_below_drewN | apply below_drew1) | exact HB.out)⟩

/-! ### impl_within: function 48 -/
def impl_within.f (a0 : Int) (a1 : Int) (a2 : Int) : Option (Bool) := if a1 ≤ a0 then (some (decide (a0 ≤ a2))) else (some false)
set_option maxHeartbeats 8000000 in
set_option maxRecDepth 100000 in
theorem impl_within.calls (a0 : Int) (a1 : Int) (a2 : Int) (r : Bool) (w : World) (h : impl_within.f a0 a1 a2 = some r) :
    Calls Try.prog 48 #[.int .i64 a0, .int .i64 a1, .int .i64 a2] w fun e w' => e = .returned (.bool r) ∧ Drawn0 w w' := by
  have H : (if a1 ≤ a0 then (some (decide (a0 ≤ a2))) else (some false)) = some r := h
  clear h
  by_cases c4 : a1 ≤ a0
  · rw [if_pos c4] at H
    have c4b0 : decide (a1 ≤ a0) = true := decide_eq_true c4
    clear c4
    obtain rfl := Option.some.inj H
    go_enter Try.func48, Try.ntmps48
    go_wp2
    go_ret
    exact ⟨by first | rfl | (simp; done) | (simp [*]; done), by repeat (first | exact Drawn0.refl _ | apply Drawn0.step)⟩
  · rw [if_neg c4] at H
    have c4b0 : decide (a1 ≤ a0) = false := decide_eq_false c4
    clear c4
    obtain rfl := Option.some.inj H
    go_enter Try.func48, Try.ntmps48
    go_wp2
    go_ret
    exact ⟨by first | rfl | (simp; done) | (simp [*]; done), by repeat (first | exact Drawn0.refl _ | apply Drawn0.step)⟩

/-! ### impl_IntervalOk: function 43 -/
def impl_IntervalOk.f (a0_0 : Int) (a0_1 : Int) (a0_2 : Int) (a0_3 : Int) : Option (Bool) := (impl_within.f a0_3 1 12).bind fun t200 => (if t200 = true then ((impl_within.f a0_0 (-400) 400).bind fun t201 => (if t201 = true then ((impl_within.f a0_1 (-400) 400).bind fun t202 => (if t202 = true then ((impl_within.f a0_2 (-400) 400).bind fun t203 => (some t203)) else (some false))) else (some false))) else (some false))
set_option maxHeartbeats 8000000 in
set_option maxRecDepth 100000 in
theorem impl_IntervalOk.calls (a0_0 : Int) (a0_1 : Int) (a0_2 : Int) (a0_3 : Int) (r : Bool) (w : World) (h : impl_IntervalOk.f a0_0 a0_1 a0_2 a0_3 = some r) :
    Calls Try.prog 43 #[.agg #[.int .i64 a0_0, .int .i64 a0_1, .int .i64 a0_2, .int .i64 a0_3]] w fun e w' => e = .returned (.bool r) ∧ Below w.heap.size w w' := by
  have hu25 := Try.underlying25
  have HB := mA (Below.refl w.heap.size w)
  have H : ((impl_within.f a0_3 1 12).bind fun t200 => (if t200 = true then ((impl_within.f a0_0 (-400) 400).bind fun t201 => (if t201 = true then ((impl_within.f a0_1 (-400) 400).bind fun t202 => (if t202 = true then ((impl_within.f a0_2 (-400) 400).bind fun t203 => (some t203)) else (some false))) else (some false))) else (some false))) = some r := h
  clear h
  replace H := Option.bind_eq_some_iff.mp H
  obtain ⟨t200, A20, H⟩ := H
  replace H : (if t200 = true then ((impl_within.f a0_0 (-400) 400).bind fun t201 => (if t201 = true then ((impl_within.f a0_1 (-400) 400).bind fun t202 => (if t202 = true then ((impl_within.f a0_2 (-400) 400).bind fun t203 => (some t203)) else (some false))) else (some false))) else (some false)) = some r := H
  have A2 := mA A20
  clear A20
  by_cases c3 : t200 = true
  · subst c3
    rw [if_pos rfl] at H
    replace H := Option.bind_eq_some_iff.mp H
    obtain ⟨t201, A40, H⟩ := H
    replace H : (if t201 = true then ((impl_within.f a0_1 (-400) 400).bind fun t202 => (if t202 = true then ((impl_within.f a0_2 (-400) 400).bind fun t203 => (some t203)) else (some false))) else (some false)) = some r := H
    have A4 := mA A40
    clear A40
    by_cases c5 : t201 = true
    · subst c5
      have H1 : ((impl_within.f a0_1 (-400) 400).bind fun t202 => (if t202 = true then ((impl_within.f a0_2 (-400) 400).bind fun t203 => (some t203)) else (some false))) = some r := by rw [if_pos rfl] at H; exact H
      clear H
      have H := H1
      clear H1
      replace H := Option.bind_eq_some_iff.mp H
      obtain ⟨t202, A60, H⟩ := H
      replace H : (if t202 = true then ((impl_within.f a0_2 (-400) 400).bind fun t203 => (some t203)) else (some false)) = some r := H
      have A6 := mA A60
      clear A60
      by_cases c7 : t202 = true
      · subst c7
        have H1 : ((impl_within.f a0_2 (-400) 400).bind fun t203 => (some t203)) = some r := by rw [if_pos rfl] at H; exact H
        clear H
        have H := H1
        clear H1
        replace H := Option.bind_eq_some_iff.mp H
        obtain ⟨t203, A80, H⟩ := H
        replace H : (some t203) = some r := H
        have A8 := mA A80
        clear A80
        obtain rfl := Option.some.inj H
        go_enter Try.func43, Try.ntmps43
        go_wp2_with (first | ((with_reducible refine gate_dst (N := 1) rfl ?_); refine box_event ?hg (N := 1) ?hd (cs := #[.int .i64 a0_0, .int .i64 a0_1, .int .i64 a0_2, .int .i64 a0_3]) (t := 25) ?hr ?_; (case hd => rfl); (case hg => rfl); (case hr => first | (go_simp; done) | (go_simp; rfl)); intro Za hg w9 hbox hb; have n0_ := mA (below_step (by repeat (first | (with_reducible first | exact HB.out | apply below_alloc | apply pw_below_drewN | apply below_drew1) | exact HB.out)) hb); have n1_ := mA (hbox); have n2_ := mA ((by rw [hg]; exact (below_size (by repeat (first | (with_reducible first | exact HB.out | apply below_alloc | apply pw_below_drewN | apply below_drew1) | exact HB.out))) : w.heap.size ≤ Za)); have n3_ := mA ((by rw [hg]; exact (below_size (by repeat (first | (with_reducible first | exact HB.out | apply below_alloc | apply pw_below_drewN | apply below_drew1) | exact HB.out))) : w.heap.size ≤ Za)); clear HB; have HB := n0_; have Zb := n1_; have Zc := n2_; have Zd := n3_; clear n0_ n1_ n2_ n3_; clear hb hbox hg; have Ze : w9.cell? ⟨Za, 0, none⟩ = some (.int .i64 a0_0) := (blk_cell Zb.out 0).trans rfl; have Zf : w9.cell? ⟨Za, 1, none⟩ = some (.int .i64 a0_1) := (blk_cell Zb.out 1).trans rfl; have Zg : w9.cell? ⟨Za, 2, none⟩ = some (.int .i64 a0_2) := (blk_cell Zb.out 2).trans rfl; have Zh : w9.cell? ⟨Za, 3, none⟩ = some (.int .i64 a0_3) := (blk_cell Zb.out 3).trans rfl; have Zi := blk_frozen Zb.out 0; have Zj := blk_frozen Zb.out 1; have Zk := blk_frozen Zb.out 2; have Zm := blk_frozen Zb.out 3) | ((with_reducible refine gate_callee (f := 48) rfl ?_); refine goesL_ (some 5) rfl rfl Try.func48 (by kernel_rfl) rfl #[.int .i64 a0_3, .int .i64 1, .int .i64 12] rfl (by (try simp only [List.map_toArray, List.map_cons, List.map_nil]); first | done | rfl | (simp only [List.length_drop, List.length_take]; rfl)) ?_; (with_reducible refine (impl_within.calls a0_3 1 12 true _ A2.out).mono ?_); rintro e w' ⟨rfl, ⟨nd, rfl⟩⟩; refine ⟨_, rfl, ?_⟩) | (go_at_call 48; (with_reducible refine (impl_within.calls a0_0 (-400) 400 true _ A4.out).mono ?_); rintro e w' ⟨rfl, ⟨nd, rfl⟩⟩) | (go_at_call 48; (with_reducible refine (impl_within.calls a0_1 (-400) 400 true _ A6.out).mono ?_); rintro e w' ⟨rfl, ⟨nd, rfl⟩⟩) | (go_at_call 48; (with_reducible refine (impl_within.calls a0_2 (-400) 400 t203 _ A8.out).mono ?_); rintro e w' ⟨rfl, ⟨nd, rfl⟩⟩))
        go_ret
        exact ⟨by first | rfl | (simp [errW_none, errW_some] <;> rfl) | (simp [*, errW_none, errW_some] <;> rfl), by repeat (first | (with_reducible first | exact HB.out | apply below_alloc | apply pw_below_drewN | apply below_drew1 | refine below_set ?_ Zd.out) | exact HB.out)⟩
      · replace c7 := Bool.eq_false_iff.mpr c7
        subst c7
        have H1 : (some false) = some r := by rw [if_neg (show ¬ (false = true) by decide)] at H; exact H
        clear H
        have H := H1
        clear H1
        obtain rfl := Option.some.inj H
        go_enter Try.func43, Try.ntmps43
        go_wp2_with (first | ((with_reducible refine gate_dst (N := 1) rfl ?_); refine box_event ?hg (N := 1) ?hd (cs := #[.int .i64 a0_0, .int .i64 a0_1, .int .i64 a0_2, .int .i64 a0_3]) (t := 25) ?hr ?_; (case hd => rfl); (case hg => rfl); (case hr => first | (go_simp; done) | (go_simp; rfl)); intro Za hg w11 hbox hb; have n0_ := mA (below_step (by repeat (first | (with_reducible first | exact HB.out | apply below_alloc | apply pw_below_drewN | apply below_drew1) | exact HB.out)) hb); have n1_ := mA (hbox); have n2_ := mA ((by rw [hg]; exact (below_size (by repeat (first | (with_reducible first | exact HB.out | apply below_alloc | apply pw_below_drewN | apply below_drew1) | exact HB.out))) : w.heap.size ≤ Za)); have n3_ := mA ((by rw [hg]; exact (below_size (by repeat (first | (with_reducible first | exact HB.out | apply below_alloc | apply pw_below_drewN | apply below_drew1) | exact HB.out))) : w.heap.size ≤ Za)); clear HB; have HB := n0_; have Zb := n1_; have Zc := n2_; have Zd := n3_; clear n0_ n1_ n2_ n3_; clear hb hbox hg; have Zn : w11.cell? ⟨Za, 0, none⟩ = some (.int .i64 a0_0) := (blk_cell Zb.out 0).trans rfl; have Zp : w11.cell? ⟨Za, 1, none⟩ = some (.int .i64 a0_1) := (blk_cell Zb.out 1).trans rfl; have Zq : w11.cell? ⟨Za, 2, none⟩ = some (.int .i64 a0_2) := (blk_cell Zb.out 2).trans rfl; have Zr : w11.cell? ⟨Za, 3, none⟩ = some (.int .i64 a0_3) := (blk_cell Zb.out 3).trans rfl; have Zs := blk_frozen Zb.out 0; have Zt := blk_frozen Zb.out 1; have Zu := blk_frozen Zb.out 2; have Zv := blk_frozen Zb.out 3) | ((with_reducible refine gate_callee (f := 48) rfl ?_); refine goesL_ (some 5) rfl rfl Try.func48 (by kernel_rfl) rfl #[.int .i64 a0_3, .int .i64 1, .int .i64 12] rfl (by (try simp only [List.map_toArray, List.map_cons, List.map_nil]); first | done | rfl | (simp only [List.length_drop, List.length_take]; rfl)) ?_; (with_reducible refine (impl_within.calls a0_3 1 12 true _ A2.out).mono ?_); rintro e w' ⟨rfl, ⟨nd, rfl⟩⟩; refine ⟨_, rfl, ?_⟩) | (go_at_call 48; (with_reducible refine (impl_within.calls a0_0 (-400) 400 true _ A4.out).mono ?_); rintro e w' ⟨rfl, ⟨nd, rfl⟩⟩) | (go_at_call 48; (with_reducible refine (impl_within.calls a0_1 (-400) 400 false _ A6.out).mono ?_); rintro e w' ⟨rfl, ⟨nd, rfl⟩⟩))
        go_ret
        exact ⟨by first | rfl | (simp [errW_none, errW_some] <;> rfl) | (simp [*, errW_none, errW_some] <;> rfl), by repeat (first | (with_reducible first | exact HB.out | apply below_alloc | apply pw_below_drewN | apply below_drew1 | refine below_set ?_ Zd.out) | exact HB.out)⟩
    · replace c5 := Bool.eq_false_iff.mpr c5
      subst c5
      have H1 : (some false) = some r := by rw [if_neg (show ¬ (false = true) by decide)] at H; exact H
      clear H
      have H := H1
      clear H1
      obtain rfl := Option.some.inj H
      go_enter Try.func43, Try.ntmps43
      go_wp2_with (first | ((with_reducible refine gate_dst (N := 1) rfl ?_); refine box_event ?hg (N := 1) ?hd (cs := #[.int .i64 a0_0, .int .i64 a0_1, .int .i64 a0_2, .int .i64 a0_3]) (t := 25) ?hr ?_; (case hd => rfl); (case hg => rfl); (case hr => first | (go_simp; done) | (go_simp; rfl)); intro Za hg w13 hbox hb; have n0_ := mA (below_step (by repeat (first | (with_reducible first | exact HB.out | apply below_alloc | apply pw_below_drewN | apply below_drew1) | exact HB.out)) hb); have n1_ := mA (hbox); have n2_ := mA ((by rw [hg]; exact (below_size (by repeat (first | (with_reducible first | exact HB.out | apply below_alloc | apply pw_below_drewN | apply below_drew1) | exact HB.out))) : w.heap.size ≤ Za)); have n3_ := mA ((by rw [hg]; exact (below_size (by repeat (first | (with_reducible first | exact HB.out | apply below_alloc | apply pw_below_drewN | apply below_drew1) | exact HB.out))) : w.heap.size ≤ Za)); clear HB; have HB := n0_; have Zb := n1_; have Zc := n2_; have Zd := n3_; clear n0_ n1_ n2_ n3_; clear hb hbox hg; have Zw : w13.cell? ⟨Za, 0, none⟩ = some (.int .i64 a0_0) := (blk_cell Zb.out 0).trans rfl; have Zx : w13.cell? ⟨Za, 1, none⟩ = some (.int .i64 a0_1) := (blk_cell Zb.out 1).trans rfl; have Zy : w13.cell? ⟨Za, 2, none⟩ = some (.int .i64 a0_2) := (blk_cell Zb.out 2).trans rfl; have Zz : w13.cell? ⟨Za, 3, none⟩ = some (.int .i64 a0_3) := (blk_cell Zb.out 3).trans rfl; have Zba := blk_frozen Zb.out 0; have Zbb := blk_frozen Zb.out 1; have Zbc := blk_frozen Zb.out 2; have Zbd := blk_frozen Zb.out 3) | ((with_reducible refine gate_callee (f := 48) rfl ?_); refine goesL_ (some 5) rfl rfl Try.func48 (by kernel_rfl) rfl #[.int .i64 a0_3, .int .i64 1, .int .i64 12] rfl (by (try simp only [List.map_toArray, List.map_cons, List.map_nil]); first | done | rfl | (simp only [List.length_drop, List.length_take]; rfl)) ?_; (with_reducible refine (impl_within.calls a0_3 1 12 true _ A2.out).mono ?_); rintro e w' ⟨rfl, ⟨nd, rfl⟩⟩; refine ⟨_, rfl, ?_⟩) | (go_at_call 48; (with_reducible refine (impl_within.calls a0_0 (-400) 400 false _ A4.out).mono ?_); rintro e w' ⟨rfl, ⟨nd, rfl⟩⟩))
      go_ret
      exact ⟨by first | rfl | (simp [errW_none, errW_some] <;> rfl) | (simp [*, errW_none, errW_some] <;> rfl), by repeat (first | (with_reducible first | exact HB.out | apply below_alloc | apply pw_below_drewN | apply below_drew1 | refine below_set ?_ Zd.out) | exact HB.out)⟩
  · replace c3 := Bool.eq_false_iff.mpr c3
    subst c3
    have H1 : (some false) = some r := by rw [if_neg (show ¬ (false = true) by decide)] at H; exact H
    clear H
    have H := H1
    clear H1
    obtain rfl := Option.some.inj H
    go_enter Try.func43, Try.ntmps43
    go_wp2_with (first | ((with_reducible refine gate_dst (N := 1) rfl ?_); refine box_event ?hg (N := 1) ?hd (cs := #[.int .i64 a0_0, .int .i64 a0_1, .int .i64 a0_2, .int .i64 a0_3]) (t := 25) ?hr ?_; (case hd => rfl); (case hg => rfl); (case hr => first | (go_simp; done) | (go_simp; rfl)); intro Za hg w15 hbox hb; have n0_ := mA (below_step (by repeat (first | (with_reducible first | exact HB.out | apply below_alloc | apply pw_below_drewN | apply below_drew1) | exact HB.out)) hb); have n1_ := mA (hbox); have n2_ := mA ((by rw [hg]; exact (below_size (by repeat (first | (with_reducible first | exact HB.out | apply below_alloc | apply pw_below_drewN | apply below_drew1) | exact HB.out))) : w.heap.size ≤ Za)); have n3_ := mA ((by rw [hg]; exact (below_size (by repeat (first | (with_reducible first | exact HB.out | apply below_alloc | apply pw_below_drewN | apply below_drew1) | exact HB.out))) : w.heap.size ≤ Za)); clear HB; have HB := n0_; have Zb := n1_; have Zc := n2_; have Zd := n3_; clear n0_ n1_ n2_ n3_; clear hb hbox hg; have Zbe : w15.cell? ⟨Za, 0, none⟩ = some (.int .i64 a0_0) := (blk_cell Zb.out 0).trans rfl; have Zbf : w15.cell? ⟨Za, 1, none⟩ = some (.int .i64 a0_1) := (blk_cell Zb.out 1).trans rfl; have Zbg : w15.cell? ⟨Za, 2, none⟩ = some (.int .i64 a0_2) := (blk_cell Zb.out 2).trans rfl; have Zbh : w15.cell? ⟨Za, 3, none⟩ = some (.int .i64 a0_3) := (blk_cell Zb.out 3).trans rfl; have Zbi := blk_frozen Zb.out 0; have Zbj := blk_frozen Zb.out 1; have Zbk := blk_frozen Zb.out 2; have Zbm := blk_frozen Zb.out 3) | ((with_reducible refine gate_callee (f := 48) rfl ?_); refine goesL_ (some 5) rfl rfl Try.func48 (by kernel_rfl) rfl #[.int .i64 a0_3, .int .i64 1, .int .i64 12] rfl (by (try simp only [List.map_toArray, List.map_cons, List.map_nil]); first | done | rfl | (simp only [List.length_drop, List.length_take]; rfl)) ?_; (with_reducible refine (impl_within.calls a0_3 1 12 false _ A2.out).mono ?_); rintro e w' ⟨rfl, ⟨nd, rfl⟩⟩; refine ⟨_, rfl, ?_⟩))
    go_ret
    exact ⟨by first | rfl | (simp [errW_none, errW_some] <;> rfl) | (simp [*, errW_none, errW_some] <;> rfl), by repeat (first | (with_reducible first | exact HB.out | apply below_alloc | apply pw_below_drewN | apply below_drew1 | refine below_set ?_ Zd.out) | exact HB.out)⟩

/-! ### impl_order: function 60 -/
def impl_order.l0 : Nat → List Int → List Int → Int → Option (Int)
  | 0, _, _, _ => none
  | k + 1, x0, x1, x5 => if x5 ≥ 0 then (if 0 ≤ x5 then (if x5 < (x0.length : Int) then (if x5 < (x1.length : Int) then (if (rd x0 x5) < (rd x1 x5) then (some (-1)) else (if (rd x0 x5) > (rd x1 x5) then (some 1) else (impl_order.l0 k x0 x1 (wrap64 (x5 - 1))))) else (none)) else (none)) else (none)) else (some 0)
def impl_order.f (k : Nat) (l0 : List Int) (l1 : List Int) : Option (Int) := if (l0.length : Int) = (l1.length : Int) then (impl_order.l0 k l0 l1 (wrap64 ((l0.length : Int) - 1))) else (if (l0.length : Int) < (l1.length : Int) then (some (-1)) else (some 1))
set_option maxHeartbeats 8000000 in
set_option maxRecDepth 100000 in
theorem impl_order.calls (k : Nat) (A0 : Option Addr) (c0 : Nat) (l0 : List Int) (A1 : Option Addr) (c1 : Nat) (l1 : List Int) (r : Int) (w : World) (hr0 : Kd.C (Kd.int .i64) w A0 l0.length l0) (hc0 : l0.length ≤ c0) (hr1 : Kd.C (Kd.int .i64) w A1 l1.length l1) (hc1 : l1.length ≤ c1) (h : impl_order.f k l0 l1 = some r) :
    Calls Try.prog 60 #[.slice A0 l0.length c0, .slice A1 l1.length c1] w fun e w' => e = .returned (.int .i64 r) ∧ Drawn0 w w' := by
  have HR0 := mA hr0
  have HC0 := mA hc0
  clear hr0 hc0
  have HR1 := mA hr1
  have HC1 := mA hc1
  clear hr1 hc1
  have H : (if (l0.length : Int) = (l1.length : Int) then (impl_order.l0 k l0 l1 (wrap64 ((l0.length : Int) - 1))) else (if (l0.length : Int) < (l1.length : Int) then (some (-1)) else (some 1))) = some r := h
  clear h
  by_cases c3 : (l0.length : Int) = (l1.length : Int)
  · rw [if_pos c3] at H
    have c3b0 : ((l0.length : Int) == (l1.length : Int)) = true := beq_iff_eq.mpr c3
    have c3b1 : ((l0.length : Int) != (l1.length : Int)) = false := bne_eq_false_iff_eq.mpr c3
    have c3b2 : (l0.length == l1.length) = true := by first | simpa using c3 | (simp at c3 ⊢; omega)
    clear c3
    have H' := mA H
    clear H
    go_enter Try.func60, Try.ntmps60
    go_wp2
    repeat (go_quiet (fail); try go_wp2)
    go_loopg [5] k (fun kq v5 w' => ∃ (x5_1 : Int), v5 = .int .i64 x5_1 ∧ Aside0 (impl_order.l0 kq l0 l1 x5_1 = some r) ∧ Aside0 (kq ≤ k) ∧ Drawn0 w w')
    case atStart => exact ⟨(wrap64 ((l0.length : Int) - 1)), (by first | rfl | (simp; done) | (simp [*]; done)), H', ⟨Nat.le_refl _⟩, by repeat (first | exact Drawn0.refl _ | apply Drawn0.step)⟩
    case round =>
      clear H'
      try clear c1
      try clear p2
      try clear c3
      try clear c3b0
      try clear c3b1
      try clear c3b2
      obtain ⟨x5_1, rfl, HA, HK1, ⟨m1, rfl⟩⟩ := hrel
      cases gk with
      | zero => exact absurd HA.out (by simp [impl_order.l0])
      | succ k1 =>
        have H := HA.out
        clear HA
        simp only [impl_order.l0] at H
        by_cases c4 : x5_1 ≥ 0
        · rw [if_pos c4] at H
          have c4b0 : decide (0 ≤ x5_1) = true := decide_eq_true c4
          clear c4
          by_cases c5 : 0 ≤ x5_1
          · rw [if_pos c5] at H
            have c5b0 : decide (0 ≤ x5_1) = true := decide_eq_true c5
            clear c5
            by_cases c6 : x5_1 < (l0.length : Int)
            · rw [if_pos c6] at H
              have c6b0 : decide (x5_1 < (l0.length : Int)) = true := decide_eq_true c6
              clear c6
              by_cases c7 : x5_1 < (l1.length : Int)
              · rw [if_pos c7] at H
                have c7b0 : decide (x5_1 < (l1.length : Int)) = true := decide_eq_true c7
                clear c7
                by_cases c8 : (rd l0 x5_1) < (rd l1 x5_1)
                · rw [if_pos c8] at H
                  have c8b0 : decide ((rd l0 x5_1) < (rd l1 x5_1)) = true := decide_eq_true c8
                  clear c8
                  obtain rfl := Option.some.inj H
                  have p204 : 0 ≤ (x5_1 : Int) := of_decide_eq_true (by first | (with_reducible assumption) | assumption)
                  have q204 : x5_1 < (l0.length : Int) := of_decide_eq_true (by first | (with_reducible assumption) | assumption)
                  obtain ⟨ad204, e204, hx204_0⟩ := Kd.at_int HR0.out x5_1 p204 q204
                  cases e204
                  replace p204 := eq_true p204
                  replace q204 := eq_true q204
                  have p205 : 0 ≤ (x5_1 : Int) := of_decide_eq_true (by first | (with_reducible assumption) | assumption)
                  have q205 : x5_1 < (l1.length : Int) := of_decide_eq_true (by first | (with_reducible assumption) | assumption)
                  obtain ⟨ad205, e205, hx205_0⟩ := Kd.at_int HR1.out x5_1 p205 q205
                  cases e205
                  replace p205 := eq_true p205
                  replace q205 := eq_true q205
                  go_wp2
                  repeat (go_quiet (fail); try go_wp2)
                  go_ret
                  exact ⟨by first | rfl | (simp; done) | (simp [*]; done), by repeat (first | exact Drawn0.refl _ | apply Drawn0.step)⟩
                · rw [if_neg c8] at H
                  have c8b0 : decide ((rd l0 x5_1) < (rd l1 x5_1)) = false := decide_eq_false c8
                  clear c8
                  by_cases c9 : (rd l0 x5_1) > (rd l1 x5_1)
                  · rw [if_pos c9] at H
                    have c9b0 : decide ((rd l1 x5_1) < (rd l0 x5_1)) = true := decide_eq_true c9
                    clear c9
                    obtain rfl := Option.some.inj H
                    have p204 : 0 ≤ (x5_1 : Int) := of_decide_eq_true (by first | (with_reducible assumption) | assumption)
                    have q204 : x5_1 < (l0.length : Int) := of_decide_eq_true (by first | (with_reducible assumption) | assumption)
                    obtain ⟨ad204, e204, hx204_0⟩ := Kd.at_int HR0.out x5_1 p204 q204
                    cases e204
                    replace p204 := eq_true p204
                    replace q204 := eq_true q204
                    have p205 : 0 ≤ (x5_1 : Int) := of_decide_eq_true (by first | (with_reducible assumption) | assumption)
                    have q205 : x5_1 < (l1.length : Int) := of_decide_eq_true (by first | (with_reducible assumption) | assumption)
                    obtain ⟨ad205, e205, hx205_0⟩ := Kd.at_int HR1.out x5_1 p205 q205
                    cases e205
                    replace p205 := eq_true p205
                    replace q205 := eq_true q205
                    have p206 : 0 ≤ (x5_1 : Int) := of_decide_eq_true (by first | (with_reducible assumption) | assumption)
                    have q206 : x5_1 < (l0.length : Int) := of_decide_eq_true (by first | (with_reducible assumption) | assumption)
                    obtain ⟨ad206, e206, hx206_0⟩ := Kd.at_int HR0.out x5_1 p206 q206
                    obtain rfl : ad204 = ad206 := (by injection e206)
                    replace p206 := eq_true p206
                    replace q206 := eq_true q206
                    have p207 : 0 ≤ (x5_1 : Int) := of_decide_eq_true (by first | (with_reducible assumption) | assumption)
                    have q207 : x5_1 < (l1.length : Int) := of_decide_eq_true (by first | (with_reducible assumption) | assumption)
                    obtain ⟨ad207, e207, hx207_0⟩ := Kd.at_int HR1.out x5_1 p207 q207
                    obtain rfl : ad205 = ad207 := (by injection e207)
                    replace p207 := eq_true p207
                    replace q207 := eq_true q207
                    go_wp2
                    repeat (go_quiet (fail); try go_wp2)
                    go_ret
                    exact ⟨by first | rfl | (simp; done) | (simp [*]; done), by repeat (first | exact Drawn0.refl _ | apply Drawn0.step)⟩
                  · rw [if_neg c9] at H
                    have c9b0 : decide ((rd l1 x5_1) < (rd l0 x5_1)) = false := decide_eq_false c9
                    clear c9
                    have H' := mA H
                    clear H
                    have p204 : 0 ≤ (x5_1 : Int) := of_decide_eq_true (by first | (with_reducible assumption) | assumption)
                    have q204 : x5_1 < (l0.length : Int) := of_decide_eq_true (by first | (with_reducible assumption) | assumption)
                    obtain ⟨ad204, e204, hx204_0⟩ := Kd.at_int HR0.out x5_1 p204 q204
                    cases e204
                    replace p204 := eq_true p204
                    replace q204 := eq_true q204
                    have p205 : 0 ≤ (x5_1 : Int) := of_decide_eq_true (by first | (with_reducible assumption) | assumption)
                    have q205 : x5_1 < (l1.length : Int) := of_decide_eq_true (by first | (with_reducible assumption) | assumption)
                    obtain ⟨ad205, e205, hx205_0⟩ := Kd.at_int HR1.out x5_1 p205 q205
                    cases e205
                    replace p205 := eq_true p205
                    replace q205 := eq_true q205
                    have p206 : 0 ≤ (x5_1 : Int) := of_decide_eq_true (by first | (with_reducible assumption) | assumption)
                    have q206 : x5_1 < (l0.length : Int) := of_decide_eq_true (by first | (with_reducible assumption) | assumption)
                    obtain ⟨ad206, e206, hx206_0⟩ := Kd.at_int HR0.out x5_1 p206 q206
                    obtain rfl : ad204 = ad206 := (by injection e206)
                    replace p206 := eq_true p206
                    replace q206 := eq_true q206
                    have p207 : 0 ≤ (x5_1 : Int) := of_decide_eq_true (by first | (with_reducible assumption) | assumption)
                    have q207 : x5_1 < (l1.length : Int) := of_decide_eq_true (by first | (with_reducible assumption) | assumption)
                    obtain ⟨ad207, e207, hx207_0⟩ := Kd.at_int HR1.out x5_1 p207 q207
                    obtain rfl : ad205 = ad207 := (by injection e207)
                    replace p207 := eq_true p207
                    replace q207 := eq_true q207
                    go_wp2
                    repeat (go_quiet (fail); try go_wp2)
                    go_roundg k1
                    case measure => have := HK1.out; omega
                    case rel => exact ⟨(wrap64 (x5_1 - 1)), (by first | rfl | (simp; done) | (simp [*]; done)), H', ⟨by have := HK1.out; omega⟩, by repeat (first | exact Drawn0.refl _ | apply Drawn0.step)⟩
              · rw [if_neg c7] at H
                exact absurd H (by simp)
            · rw [if_neg c6] at H
              exact absurd H (by simp)
          · rw [if_neg c5] at H
            exact absurd H (by simp)
        · rw [if_neg c4] at H
          have c4b0 : decide (0 ≤ x5_1) = false := decide_eq_false c4
          clear c4
          obtain rfl := Option.some.inj H
          go_wp2
          repeat (go_quiet (fail); try go_wp2)
          go_ret
          exact ⟨by first | rfl | (simp; done) | (simp [*]; done), by repeat (first | exact Drawn0.refl _ | apply Drawn0.step)⟩
  · rw [if_neg c3] at H
    have c3b0 : ((l0.length : Int) == (l1.length : Int)) = false := beq_eq_false_iff_ne.mpr c3
    have c3b1 : ((l0.length : Int) != (l1.length : Int)) = true := bne_iff_ne.mpr c3
    have c3b2 : (l0.length == l1.length) = false := by first | simpa using c3 | (simp at c3 ⊢; omega)
    by_cases c10 : (l0.length : Int) < (l1.length : Int)
    · rw [if_pos c10] at H
      have c10b0 : decide ((l0.length : Int) < (l1.length : Int)) = true := decide_eq_true c10
      have c10b1 : decide (l0.length < l1.length) = true := decide_eq_true (Int.ofNat_lt.mp c10)
      clear c10
      obtain rfl := Option.some.inj H
      go_enter Try.func60, Try.ntmps60
      go_wp2
      repeat (go_quiet (fail); try go_wp2)
      go_ret
      exact ⟨by first | rfl | (simp; done) | (simp [*]; done), by repeat (first | exact Drawn0.refl _ | apply Drawn0.step)⟩
    · rw [if_neg c10] at H
      have c10b0 : decide ((l0.length : Int) < (l1.length : Int)) = false := decide_eq_false c10
      have c10b1 : decide (l0.length < l1.length) = false := decide_eq_false (fun h => c10 (Int.ofNat_lt.mpr h))
      clear c10
      obtain rfl := Option.some.inj H
      go_enter Try.func60, Try.ntmps60
      go_wp2
      repeat (go_quiet (fail); try go_wp2)
      go_ret
      exact ⟨by first | rfl | (simp; done) | (simp [*]; done), by repeat (first | exact Drawn0.refl _ | apply Drawn0.step)⟩
end Go.Proofs.Ytfimodphnfejdaa.PFnExactChainOf
