/- Contracts of the Go functions that the law FnThreeSteps reaches. Sections as the kit's print.sh writes them, put together by a program of this session (stq.py); what calls into Go's library is this session's walk over the kit's shelf contracts. -/
import Derived.Test.YtfimodphnfejdaaQFnThreeStepsy6
namespace Go.Proofs.Ytfimodphnfejdaa.PFnThreeSteps
open Go.RowKit Go.Proofs.YtfimodphnfejdaaW.PrintWords Go.Proofs.YtfimodphnfejdaaW.PrintLast Go.Proofs.YtfimodphnfejdaaW.PrintMore
attribute [local go_sem] max2_int min2_int max_two min_two max_three min_three max_four min_four
set_option linter.unusedVariables false
set_option linter.unusedSimpArgs false
attribute [local go_sem high] eqA25

/-! ### impl_CountSizes: function 40 -/
/-- impl.CountSizes: the different simplest forms, counted by a map's keys. -/
abbrev Q4 := Int × Int × Int × Int
def wf4 (q : Q4) : Prop := (Lit.int .i64 q.1).wf = true ∧ (Lit.int .i64 q.2.1).wf = true ∧ (Lit.int .i64 q.2.2.1).wf = true ∧ (Lit.int .i64 q.2.2.2).wf = true
instance (q : Q4) : Decidable (wf4 q) := by unfold wf4; infer_instance
def keyVal (q : Q4) : Value := .agg #[.int .i64 q.1, .int .i64 q.2.1, .int .i64 q.2.2.1, .int .i64 q.2.2.2]
def keyLit (q : Q4) : Lit := .string (keyBytes [.int .i64 q.1, .int .i64 q.2.1, .int .i64 q.2.2.1, .int .i64 q.2.2.2])
theorem keyOf_val (q : Q4) (h : wf4 q) : keyOf Try.prog 25 (keyVal q) = some (keyLit q) := by
  obtain ⟨h0, h1, h2, h3⟩ := h
  have hk : Try.prog.keyType 25 = true := by kernel_rfl
  have hz : 0 < Try.prog.types.size := of_decide_eq_true (by kernel_rfl)
  obtain ⟨n, hs⟩ : ∃ n, Try.prog.types.size = n + 1 := ⟨Try.prog.types.size - 1, by omega⟩
  have hc : Try.prog.cellsOf 25 = 4 := by kernel_rfl
  have hc3 : Try.prog.cellsOf 3 = 1 := by kernel_rfl
  have hform : (keyVal q).formed Try.prog 25 = true := by simp [keyVal, Value.formed, Try.underlying25, hc]
  have h4 : ∀ a : Int, (Lit.int .i64 a).wf = true → Try.prog.keyLits (n + 1) 3 [.int .i64 a] = some [.int .i64 a] := fun a ha => by
    simp [Program.keyLits, Try.underlying3, ha]
  have hl : Try.prog.keyLits (n + 1 + 1) 25 [.int .i64 q.1, .int .i64 q.2.1, .int .i64 q.2.2.1, .int .i64 q.2.2.2] = some [.int .i64 q.1, .int .i64 q.2.1, .int .i64 q.2.2.1, .int .i64 q.2.2.2] := by
    simp only [Program.keyLits, Try.underlying25]
    simp [Program.keyLits, Try.underlying3, hc, hc3, h0, h1, h2, h3]
  have hcl : (keyVal q).cells.toList = [.int .i64 q.1, .int .i64 q.2.1, .int .i64 q.2.2.1, .int .i64 q.2.2.2] := by simp [keyVal, Value.cells]
  unfold keyOf keyLit
  rw [Try.underlying25]
  simp only [hk, hform, hs, hcl, hl, Bool.and_self, if_true, Option.map_some]
theorem law25 : Maps.Keyed Try.prog 25 := Maps.Keyed.of_law (deep_law_laid (P := Try.prog) (by kernel_rfl) (m := 2) (by omega) (of_decide_eq_true (by kernel_rfl)) (by kernel_rfl) (by rw [Try.underlying25]))
theorem keyLit_inj {p q : Q4} (hp : wf4 p) (hq : wf4 q) (h : keyLit p = keyLit q) : p = q := by
  have e := law25.inj (keyOf_val p hp) (by rw [h]; exact keyOf_val q hq)
  unfold keyVal at e
  obtain ⟨p0, p1, p2, p3⟩ := p
  obtain ⟨q0, q1, q2, q3⟩ := q
  simpa using e
theorem keyLit_key (q : Q4) : WideAt.IsKeyLit (keyLit q) := trivial
theorem ownsMap_below {w w' : World} {b n : Nat} {D : DataW Unit} (h : w.ownsMap Try.prog 25 (plainElem Try.prog 4) b n D) (hb : Below w.heap.size w w') : w'.ownsMap Try.prog 25 (plainElem Try.prog 4) b n D :=
  h.kept (row := none) ⟨hb.os, hb.tape, hb.output, hb.size, fun k hk _ => hb.block k hk⟩ (by simp)
def impl_CountSizes.go (k : Nat) : List S25 → List Q4 → Option Int
  | [], xs => some (((xs.map keyLit).foldl Maps.addKey []).length : Int)
  | x :: t, xs => (impl_IntervalOk.f x.f0 x.f1 x.f2 x.f3).bind fun b => if b = true then ((impl_simplest.f k x.f0 x.f1 x.f2 x.f3).bind fun s => if wf4 s then impl_CountSizes.go k t (xs ++ [s]) else none) else some 0
def impl_CountSizes.f (k : Nat) (l0 : List S25) : Option Int := if l0.length ≤ 1048576 then impl_CountSizes.go k l0 [] else none
theorem drop_rd (l : List S25) (i : Nat) (h : i < l.length) : l.drop i = rd_T25 l (i : Int) :: l.drop (i + 1) := by
  have e : rd_T25 l (i : Int) = l[i] := by simp [rd_T25, h]
  rw [e]; exact List.drop_eq_getElem_cons h
set_option maxHeartbeats 8000000 in
set_option maxRecDepth 100000 in
theorem impl_CountSizes.calls (k : Nat) (A0 : Option Addr) (c0 : Nat) (l0 : List S25) (r : Int) (w : World) (hr0 : Kd.C k25 w A0 l0.length l0) (hc0 : l0.length ≤ c0) (h : impl_CountSizes.f k l0 = some r) :
    Calls Try.prog 40 #[.slice A0 l0.length c0] w fun e w' => e = .returned (.int .i64 r) ∧ Below w.heap.size w w' := by
  unfold impl_CountSizes.f at h
  by_cases hl : l0.length ≤ 1048576
  · rw [if_pos hl] at h
    have hu25 := Try.underlying25
    have HR0 := mA hr0
    have HL := mA hl
    have HG := mA h
    clear h hr0 hl
    have hmm := @run_makeMap Try.prog
    go_enter Try.func40, Try.ntmps40
    go_wp2
    go_loopg [9] (l0.length + 1) (fun kq v9 w' => ∃ (x : Int) (i : Nat) (xs : List Q4), v9 = .int .i64 x ∧ Aside0 (x = (i : Int) ∧ i + kq = l0.length + 1 ∧ i ≤ l0.length) ∧ Aside0 (impl_CountSizes.go k (l0.drop i) xs = some r) ∧ Aside0 (World.ownsMap (H := Unit) w' Try.prog 25 (plainElem Try.prog 4) w.heap.size i (Maps.setOf (.lit (.bool true)) (xs.map keyLit))) ∧ Aside0 (Below w.heap.size w w'))
    case atStart => exact ⟨0, 0, [], (by first | rfl | (simp; done) | (simp [*]; done)), ⟨by omega, by omega, by omega⟩, HG, ⟨World.ownsMap_made _ _ _ _⟩, ⟨(Below.refl _ _).alloc (Nat.le_refl _) _⟩⟩
    case round =>
      obtain ⟨x, i, xs, rfl, HX, HG, HM, HB0⟩ := hrel
      by_cases c1 : x < (l0.length : Int)
      · have c1b0 : decide (x < (l0.length : Int)) = true := decide_eq_true c1
        have q1 : x < (l0.length : Int) := c1
        have p1 : 0 ≤ x := by have := HX.out; omega
        have hi : i < l0.length := by have := HX.out.1; omega
        have hdr : l0.drop i = rd_T25 l0 x :: l0.drop (i + 1) := by rw [HX.out.1]; exact drop_rd l0 i hi
        have H := HG.out
        rw [hdr, impl_CountSizes.go] at H
        obtain ⟨t, hok, H⟩ := Option.bind_eq_some_iff.mp H
        have A8 := mA hok
        clear hok hdr c1 hi
        obtain ⟨ad1, e1, hx1_0, hx1_1, hx1_2, hx1_3⟩ := at_T25 HR0.out x p1 q1
        cases e1
        replace hx1_0 := (HB0.out.cell (World.block_lt_of_cell? w _ hx1_0)).trans hx1_0
        replace hx1_1 := (HB0.out.cell (World.block_lt_of_cell? w _ hx1_1)).trans hx1_1
        replace hx1_2 := (HB0.out.cell (World.block_lt_of_cell? w _ hx1_2)).trans hx1_2
        replace hx1_3 := (HB0.out.cell (World.block_lt_of_cell? w _ hx1_3)).trans hx1_3
        have P1 := mA (And.intro p1 q1)
        replace p1 := eq_true p1
        replace q1 := eq_true q1
        have HB := mA (Below.refl wr.heap.size wr)
        cases t with
        | false =>
          obtain rfl : (0 : Int) = r := by rw [if_neg (show ¬ (false = true) by decide)] at H; exact Option.some.inj H
          clear H
          go_wp2_with (first | ((with_reducible refine gate_dst (N := 5) rfl ?_); (try (refine gate_guard (by rfl) ?_; dsimp only)); refine box_event ?hg (N := 5) ?hd (cs := #[.int .i64 0, .int .i64 0, .int .i64 0, .int .i64 0]) (t := 25) ?hr ?_; (case hd => rfl); (case hg => rfl); (case hr => first | (go_simp; done) | (go_simp; rfl)); intro gb hg w10 hbox hb; have n0_ := mA (below_step (by repeat (first | (with_reducible first | exact HB.out | apply below_alloc | apply pw_below_drewN | apply below_drew1) | exact HB.out)) hb); have n1_ := mA (hbox); have n2_ := mA ((by rw [hg]; exact (below_size (by repeat (first | (with_reducible first | exact HB.out | apply below_alloc | apply pw_below_drewN | apply below_drew1) | exact HB.out))) : wr.heap.size ≤ gb)); clear HB; have HB := n0_; have BK := n1_; have GE := n2_; clear n0_ n1_ n2_; clear hb hbox hg; have hcz_0 : w10.cell? ⟨gb, 0, none⟩ = some (.int .i64 0) := (blk_cell BK.out 0).trans rfl; have hcz_1 : w10.cell? ⟨gb, 1, none⟩ = some (.int .i64 0) := (blk_cell BK.out 1).trans rfl; have hcz_2 : w10.cell? ⟨gb, 2, none⟩ = some (.int .i64 0) := (blk_cell BK.out 2).trans rfl; have hcz_3 : w10.cell? ⟨gb, 3, none⟩ = some (.int .i64 0) := (blk_cell BK.out 3).trans rfl; have hfz_0 := blk_frozen BK.out 0; have hfz_1 := blk_frozen BK.out 1; have hfz_2 := blk_frozen BK.out 2; have hfz_3 := blk_frozen BK.out 3) | ((with_reducible refine gate_callee (f := 43) rfl ?_); refine goesL_ (some 14) rfl rfl Try.func43 (by kernel_rfl) rfl #[.agg #[.int .i64 ((rd_T25 l0 x).f0), .int .i64 ((rd_T25 l0 x).f1), .int .i64 ((rd_T25 l0 x).f2), .int .i64 ((rd_T25 l0 x).f3)]] rfl (by (try simp only [List.map_toArray, List.map_cons, List.map_nil]); first | done | rfl | (simp only [List.length_drop, List.length_take]; rfl)) ?_; (with_reducible refine (impl_IntervalOk.calls ((rd_T25 l0 x).f0) ((rd_T25 l0 x).f1) ((rd_T25 l0 x).f2) ((rd_T25 l0 x).f3) false _ A8.out).mono ?_); rintro e w12 ⟨rfl, hb⟩; refine ⟨_, rfl, ?_⟩; have n0_ := mA (blk_below (g := gb) (o := cQ25 (((rd_T25 l0 x).f0)) (((rd_T25 l0 x).f1)) (((rd_T25 l0 x).f2)) (((rd_T25 l0 x).f3))) (by (with_reducible repeat (first | refine blk_drewN ?_ _ | refine blk_drew ?_ | refine blk_alloc ?_ _)); refine blk_put (cs := #[.int .i64 ((rd_T25 l0 x).f0), .int .i64 ((rd_T25 l0 x).f1), .int .i64 ((rd_T25 l0 x).f2), .int .i64 0]) ?_ 3 _ rfl; (with_reducible repeat (first | refine blk_drewN ?_ _ | refine blk_drew ?_ | refine blk_alloc ?_ _)); refine blk_put (cs := #[.int .i64 ((rd_T25 l0 x).f0), .int .i64 ((rd_T25 l0 x).f1), .int .i64 0, .int .i64 0]) ?_ 2 _ rfl; (with_reducible repeat (first | refine blk_drewN ?_ _ | refine blk_drew ?_ | refine blk_alloc ?_ _)); refine blk_put (cs := #[.int .i64 ((rd_T25 l0 x).f0), .int .i64 0, .int .i64 0, .int .i64 0]) ?_ 1 _ rfl; (with_reducible repeat (first | refine blk_drewN ?_ _ | refine blk_drew ?_ | refine blk_alloc ?_ _)); refine blk_put (cs := #[.int .i64 0, .int .i64 0, .int .i64 0, .int .i64 0]) ?_ 0 _ rfl; (with_reducible repeat (first | refine blk_drewN ?_ _ | refine blk_drew ?_ | refine blk_alloc ?_ _)); exact BK.out) hb); have n1_ := mA (below_step (by repeat (first | (with_reducible first | exact HB.out | apply below_alloc | apply pw_below_drewN | apply below_drew1 | refine below_set ?_ GE.out) | exact HB.out)) hb); clear BK; clear HB; have BK := n0_; have HB := n1_; clear n0_ n1_; (try clear hb); have hcy_0 : w12.cell? ⟨gb, 0, none⟩ = some (.int .i64 ((rd_T25 l0 x).f0)) := (blk_cell BK.out 0).trans rfl; have hcy_1 : w12.cell? ⟨gb, 1, none⟩ = some (.int .i64 ((rd_T25 l0 x).f1)) := (blk_cell BK.out 1).trans rfl; have hcy_2 : w12.cell? ⟨gb, 2, none⟩ = some (.int .i64 ((rd_T25 l0 x).f2)) := (blk_cell BK.out 2).trans rfl; have hcy_3 : w12.cell? ⟨gb, 3, none⟩ = some (.int .i64 ((rd_T25 l0 x).f3)) := (blk_cell BK.out 3).trans rfl))
          go_ret
          exact ⟨by first | rfl | (simp; done), HB0.out.trans ((show Below wr.heap.size wr _ from (by repeat (first | (with_reducible first | exact HB.out | apply below_alloc | apply pw_below_drewN | apply below_drew1 | refine below_set ?_ GE.out) | exact HB.out))).mono HB0.out.size)⟩
        | true =>
          rw [if_pos rfl] at H
          obtain ⟨⟨s0, s1, s2, s3⟩, hsx, H⟩ := Option.bind_eq_some_iff.mp H
          by_cases hwf : wf4 (s0, s1, s2, s3)
          · rw [if_pos hwf] at H
            have A9 := mA hsx
            have HK : Aside0 (keyOf Try.prog 25 (.agg #[.int .i64 s0, .int .i64 s1, .int .i64 s2, .int .i64 s3]) = some (keyLit (s0, s1, s2, s3))) := ⟨keyOf_val (s0, s1, s2, s3) hwf⟩
            have H' := mA H
            clear H hsx hwf
            obtain ⟨k1, rfl⟩ : ∃ k1, gk = k1 + 1 := ⟨gk - 1, by have := HX.out; have := P1.out; omega⟩
            go_wp2_with (first | ((with_reducible refine gate_dst (N := 5) rfl ?_); (try (refine gate_guard (by rfl) ?_; dsimp only)); refine box_event ?hg (N := 5) ?hd (cs := #[.int .i64 0, .int .i64 0, .int .i64 0, .int .i64 0]) (t := 25) ?hr ?_; (case hd => rfl); (case hg => rfl); (case hr => first | (go_simp; done) | (go_simp; rfl)); intro gb hg w10 hbox hb; have n0_ := mA (below_step (by repeat (first | (with_reducible first | exact HB.out | apply below_alloc | apply pw_below_drewN | apply below_drew1) | exact HB.out)) hb); have n1_ := mA (hbox); have n2_ := mA ((by rw [hg]; exact (below_size (by repeat (first | (with_reducible first | exact HB.out | apply below_alloc | apply pw_below_drewN | apply below_drew1) | exact HB.out))) : wr.heap.size ≤ gb)); clear HB; have HB := n0_; have BK := n1_; have GE := n2_; clear n0_ n1_ n2_; clear hb hbox hg; have hcz_0 : w10.cell? ⟨gb, 0, none⟩ = some (.int .i64 0) := (blk_cell BK.out 0).trans rfl; have hcz_1 : w10.cell? ⟨gb, 1, none⟩ = some (.int .i64 0) := (blk_cell BK.out 1).trans rfl; have hcz_2 : w10.cell? ⟨gb, 2, none⟩ = some (.int .i64 0) := (blk_cell BK.out 2).trans rfl; have hcz_3 : w10.cell? ⟨gb, 3, none⟩ = some (.int .i64 0) := (blk_cell BK.out 3).trans rfl; have hfz_0 := blk_frozen BK.out 0; have hfz_1 := blk_frozen BK.out 1; have hfz_2 := blk_frozen BK.out 2; have hfz_3 := blk_frozen BK.out 3) | ((with_reducible refine gate_callee (f := 43) rfl ?_); refine goesL_ (some 14) rfl rfl Try.func43 (by kernel_rfl) rfl #[.agg #[.int .i64 ((rd_T25 l0 x).f0), .int .i64 ((rd_T25 l0 x).f1), .int .i64 ((rd_T25 l0 x).f2), .int .i64 ((rd_T25 l0 x).f3)]] rfl (by (try simp only [List.map_toArray, List.map_cons, List.map_nil]); first | done | rfl | (simp only [List.length_drop, List.length_take]; rfl)) ?_; (with_reducible refine (impl_IntervalOk.calls ((rd_T25 l0 x).f0) ((rd_T25 l0 x).f1) ((rd_T25 l0 x).f2) ((rd_T25 l0 x).f3) true _ A8.out).mono ?_); rintro e w12 ⟨rfl, hb⟩; refine ⟨_, rfl, ?_⟩; have n0_ := mA (blk_below (g := gb) (o := cQ25 (((rd_T25 l0 x).f0)) (((rd_T25 l0 x).f1)) (((rd_T25 l0 x).f2)) (((rd_T25 l0 x).f3))) (by (with_reducible repeat (first | refine blk_drewN ?_ _ | refine blk_drew ?_ | refine blk_alloc ?_ _)); refine blk_put (cs := #[.int .i64 ((rd_T25 l0 x).f0), .int .i64 ((rd_T25 l0 x).f1), .int .i64 ((rd_T25 l0 x).f2), .int .i64 0]) ?_ 3 _ rfl; (with_reducible repeat (first | refine blk_drewN ?_ _ | refine blk_drew ?_ | refine blk_alloc ?_ _)); refine blk_put (cs := #[.int .i64 ((rd_T25 l0 x).f0), .int .i64 ((rd_T25 l0 x).f1), .int .i64 0, .int .i64 0]) ?_ 2 _ rfl; (with_reducible repeat (first | refine blk_drewN ?_ _ | refine blk_drew ?_ | refine blk_alloc ?_ _)); refine blk_put (cs := #[.int .i64 ((rd_T25 l0 x).f0), .int .i64 0, .int .i64 0, .int .i64 0]) ?_ 1 _ rfl; (with_reducible repeat (first | refine blk_drewN ?_ _ | refine blk_drew ?_ | refine blk_alloc ?_ _)); refine blk_put (cs := #[.int .i64 0, .int .i64 0, .int .i64 0, .int .i64 0]) ?_ 0 _ rfl; (with_reducible repeat (first | refine blk_drewN ?_ _ | refine blk_drew ?_ | refine blk_alloc ?_ _)); exact BK.out) hb); have n1_ := mA (below_step (by repeat (first | (with_reducible first | exact HB.out | apply below_alloc | apply pw_below_drewN | apply below_drew1 | refine below_set ?_ GE.out) | exact HB.out)) hb); clear BK; clear HB; have BK := n0_; have HB := n1_; clear n0_ n1_; (try clear hb); have hcy_0 : w12.cell? ⟨gb, 0, none⟩ = some (.int .i64 ((rd_T25 l0 x).f0)) := (blk_cell BK.out 0).trans rfl; have hcy_1 : w12.cell? ⟨gb, 1, none⟩ = some (.int .i64 ((rd_T25 l0 x).f1)) := (blk_cell BK.out 1).trans rfl; have hcy_2 : w12.cell? ⟨gb, 2, none⟩ = some (.int .i64 ((rd_T25 l0 x).f2)) := (blk_cell BK.out 2).trans rfl; have hcy_3 : w12.cell? ⟨gb, 3, none⟩ = some (.int .i64 ((rd_T25 l0 x).f3)) := (blk_cell BK.out 3).trans rfl) | ((with_reducible refine gate_callee (f := 52) rfl ?_); refine goesL_ (some 18) rfl rfl Try.func52 (by kernel_rfl) rfl #[.agg #[.int .i64 ((rd_T25 l0 x).f0), .int .i64 ((rd_T25 l0 x).f1), .int .i64 ((rd_T25 l0 x).f2), .int .i64 ((rd_T25 l0 x).f3)]] rfl (by (try simp only [List.map_toArray, List.map_cons, List.map_nil]); first | done | rfl | (simp only [List.length_drop, List.length_take]; rfl)) ?_; (with_reducible refine (impl_simplest.calls k ((rd_T25 l0 x).f0) ((rd_T25 l0 x).f1) ((rd_T25 l0 x).f2) ((rd_T25 l0 x).f3) s0 s1 s2 s3 _ A9.out).mono ?_); rintro e w13 ⟨rfl, hb⟩; refine ⟨_, rfl, ?_⟩; have n1_ := mA (below_step (by repeat (first | (with_reducible first | exact HB.out | apply below_alloc | apply pw_below_drewN | apply below_drew1 | refine below_set ?_ GE.out) | exact HB.out)) hb); clear HB; have HB := n1_; clear n1_; (try clear hb)) | (at_mapUpdate; refine wpList_mapUpdate_own _ rfl _ _ _ 59 rfl 25 4 law25 Try.underlying59 (plainElem (H := Unit) Try.prog 4) w.heap.size i _ rfl (ownsMap_below HM.out (by repeat (first | (with_reducible first | exact HB.out | apply below_alloc | apply pw_below_drewN | apply below_drew1 | refine below_set ?_ GE.out) | exact HB.out))) (by have := HX.out; have := HL.out; unfold maxLen; omega) _ _ _ rfl rfl HK.out _ [] (plainElem_bool Try.underlying4 true) ?_; intro w14 hown1 hgrow1; have HO := mA hown1; have HR := mA hgrow1; clear hown1 hgrow1))
            go_roundg k1
            case measure => omega
            case rel => exact ⟨wrap64 (x + 1), i + 1, xs ++ [(s0, s1, s2, s3)], (by first | rfl | (simp; done) | (simp [*]; done)), ⟨by have := HX.out; have := HL.out; have := P1.out; unfold wrap64; omega⟩, H', ⟨by rw [List.map_append, List.map_cons, List.map_nil, Maps.setOf_snoc]; exact HO.out⟩, ⟨((HB0.out.trans ((show Below wr.heap.size wr _ from HB.out).mono HB0.out.size)).grown HR.out (Nat.le_trans HB0.out.size HB.out.size) (fun j hj => by cases hj; exact Nat.le_refl _))⟩⟩
          · rw [if_neg hwf] at H; exact absurd H (by simp)
      · have c1b0 : decide (x < (l0.length : Int)) = false := decide_eq_false c1
        obtain rfl : i = l0.length := by have := HX.out; omega
        have hr : r = (((xs.map keyLit).foldl Maps.addKey []).length : Int) := by
          have := HG.out
          rw [List.drop_length] at this
          exact (Option.some.inj this).symm
        have hz : Maps.size (Maps.setOf (H := Unit) (.lit (.bool true)) (xs.map keyLit)) = ((xs.map keyLit).foldl Maps.addKey []).length := Maps.size_setOf _ _ (fun y hy => by obtain ⟨q, _, rfl⟩ := List.mem_map.1 hy; exact keyLit_key q)
        clear c1
        go_wp2_with (first
          | (at_len; refine wpList_len_own _ rfl _ 59 rfl 25 4 Try.underlying59 _ w.heap.size _ _ rfl HM.out ?_))
        go_ret
        exact ⟨by rw [hr]; rfl, HB0.out⟩
  · rw [if_neg hl] at h; exact absurd h (by simp)
end Go.Proofs.Ytfimodphnfejdaa.PFnThreeSteps
