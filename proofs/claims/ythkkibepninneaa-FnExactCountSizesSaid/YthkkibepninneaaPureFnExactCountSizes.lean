/- The law FnExactCountSizes returns true for all slices of intervals of four whole numbers of 64 bits. -/
import Derived.Test.YthkkibepninneaaQFnExactCountSizesy8
import Derived.Test.YthkkibepninneaaM0
import Derived.Test.YthkkibepninneaaM2
namespace Go.Proofs.Ythkkibepninneaa.PureFnExactCountSizes
open Go Go.RowKit Go.Proofs.Ythkkibepninneaa.PFnExactCountSizes Go.Proofs.Ythkkibepninneaa.My Go.Proofs.YthkkibepninneaaW.PrintWords Go.Proofs.YthkkibepninneaaW.PrintLast Go.Proofs.YthkkibepninneaaW.PrintMore
set_option linter.unusedVariables false
set_option linter.unusedSimpArgs false
theorem within_eq (a b c : Int) : impl_within.f a b c = some (decide (b ≤ a ∧ a ≤ c)) := by
  unfold impl_within.f
  by_cases h : b ≤ a <;> simp [h]
theorem l01In_eq (a b c : Int) : spec_l01In.f a b c = some (decide (b ≤ a ∧ a ≤ c)) := by
  unfold spec_l01In.f
  by_cases h : b ≤ a <;> simp [h]
theorem iok_eq (a b c r : Int) : impl_IntervalOk.f a b c r = some (decide (Ok a b c r)) := by
  simp only [impl_IntervalOk.f, within_eq, Option.bind_some, Ok]
  by_cases h1 : 1 ≤ r ∧ r ≤ 12 <;> by_cases h2 : -400 ≤ a ∧ a ≤ 400 <;> by_cases h3 : -400 ≤ b ∧ b ≤ 400 <;> simp [h1, h2, h3]
theorem sok_eq (a b c r : Int) : spec_IntervalOk.f a b c r = some (decide (Ok a b c r)) := by
  simp only [spec_IntervalOk.f, l01In_eq, Option.bind_some, Ok]
  by_cases h1 : 1 ≤ r ∧ r ≤ 12 <;> by_cases h2 : -400 ≤ a ∧ a ≤ 400 <;> by_cases h3 : -400 ≤ b ∧ b ≤ 400 <;> simp [h1, h2, h3]
theorem idiv_loop (n : Nat) : ∀ (a b : Int), b.natAbs < n → a.natAbs ≤ 1000000000 → b.natAbs ≤ 1000000000 → Ev (fun k => impl_divisor.l0 k a b) ((Int.gcd a b : Nat) : Int) := by
  induction n with
  | zero => intro a b h; omega
  | succ n ih =>
    intro a b h ha hb
    by_cases h0 : b = 0
    · refine Ev_at1 fun k => ?_
      simp only [impl_divisor.l0]
      rw [if_pos h0, h0, Int.gcd_zero_right]
      by_cases hs : a < 0
      · rw [if_pos hs, wrap_id (by omega) (by omega)]; congr 1; omega
      · rw [if_neg hs]; congr 1; omega
    · have h1 := tmod_lt a b h0
      rw [← gcd_step a b]
      refine Ev_round _ (fun k => ?_) (ih b (a.tmod b) (by omega) hb (by omega))
      simp only [impl_divisor.l0]
      rw [if_neg h0]
theorem idiv_ev (a b : Int) (ha : a.natAbs ≤ 1000000000) (hb : b.natAbs ≤ 1000000000) : Ev (fun k => impl_divisor.f k a b) ((Int.gcd a b : Nat) : Int) := by
  unfold impl_divisor.f
  exact idiv_loop (b.natAbs + 1) a b (by omega) ha hb
theorem isimp_ev {a b c r : Int} (hr : 0 < r) (ha : a.natAbs ≤ 1000000000) (hb : b.natAbs ≤ 1000000000) (hc : c.natAbs ≤ 1000000000) (hr' : r.natAbs ≤ 1000000000) : Ev (fun k => impl_simplest.f k a b c r) (simp4 a b c r) := by
  have hp := g4_pos a b c hr
  have dv : ∀ x : Int, x.natAbs ≤ 1000000000 → ((g4 a b c r : Nat) : Int) ∣ x → wrap64 (x.tdiv ((g4 a b c r : Nat) : Int)) = x / ((g4 a b c r : Nat) : Int) := by
    intro x hx hd
    rw [wrap_id (tdiv_bd x _ hx).1 (tdiv_bd x _ hx).2, tdiv_dvd hd]
  unfold impl_simplest.f
  refine Ev.bind (idiv_ev a b ha hb) (Ev.bind (idiv_ev c r hc hr') (Ev.bind (idiv_ev _ _ (gcd_bd ha hb) (gcd_bd hc hr')) (Ev_eq fun k => ?_)))
  have e : Int.gcd ((Int.gcd a b : Nat) : Int) ((Int.gcd c r : Nat) : Int) = g4 a b c r := by simp [g4, Int.gcd]
  rw [e, if_neg (by omega), dv a ha (g4_dvd1 ..), dv b hb (g4_dvd2 ..), dv c hc (g4_dvd3 ..), dv r hr' (g4_dvd4 ..)]
  rfl
theorem sgcd_loop (n : Nat) : ∀ (a b : Int), b.natAbs < n → 0 ≤ a → 0 ≤ b → Ev (fun k => spec_l03Gcd.l0 k a b) ((Int.gcd a b : Nat) : Int) := by
  induction n with
  | zero => intro a b h; omega
  | succ n ih =>
    intro a b h ha hb
    by_cases h0 : b = 0
    · refine Ev_at1 fun k => ?_
      simp only [spec_l03Gcd.l0]
      rw [if_neg (by omega), h0, Int.gcd_zero_right]
      congr 1; omega
    · have h1 := tmod_lt a b h0
      rw [← gcd_step a b]
      refine Ev_round _ (fun k => ?_) (ih b (a.tmod b) (by omega) hb (Int.tmod_nonneg _ ha))
      simp only [spec_l03Gcd.l0]
      rw [if_pos (by omega), if_neg h0]
theorem mx_abs (a : Int) (ha : a.natAbs ≤ 1000000000) : mx a (wrap64 (-a)) = ((a.natAbs : Nat) : Int) := by
  rw [wrap_id (by omega) (by omega)]; unfold mx; split <;> omega
theorem sgcd_ev (a b : Int) (ha : a.natAbs ≤ 1000000000) (hb : b.natAbs ≤ 1000000000) : Ev (fun k => spec_l03Gcd.f k a b) ((Int.gcd a b : Nat) : Int) := by
  unfold spec_l03Gcd.f
  rw [mx_abs a ha, mx_abs b hb]
  have := sgcd_loop (b.natAbs + 1) ((a.natAbs : Nat) : Int) ((b.natAbs : Nat) : Int) (by omega) (by omega) (by omega)
  have e : Int.gcd ((a.natAbs : Nat) : Int) ((b.natAbs : Nat) : Int) = Int.gcd a b := by simp [Int.gcd]
  rw [e] at this
  exact this
theorem ssimp_ev {a b c r : Int} (hr : 0 < r) (ha : a.natAbs ≤ 1000000000) (hb : b.natAbs ≤ 1000000000) (hc : c.natAbs ≤ 1000000000) (hr' : r.natAbs ≤ 1000000000) : Ev (fun k => spec_l03Simple.f k a b c r) (simp4 a b c r) := by
  have hp := g4_pos a b c hr
  have dv : ∀ x : Int, x.natAbs ≤ 1000000000 → ((g4 a b c r : Nat) : Int) ∣ x → wrap64 (x.tdiv ((g4 a b c r : Nat) : Int)) = x / ((g4 a b c r : Nat) : Int) := by
    intro x hx hd
    rw [wrap_id (tdiv_bd x _ hx).1 (tdiv_bd x _ hx).2, tdiv_dvd hd]
  unfold spec_l03Simple.f
  refine Ev.bind (sgcd_ev a b ha hb) (Ev.bind (sgcd_ev c r hc hr') (Ev.bind (sgcd_ev _ _ (gcd_bd ha hb) (gcd_bd hc hr')) (Ev_eq fun k => ?_)))
  have e : Int.gcd ((Int.gcd a b : Nat) : Int) ((Int.gcd c r : Nat) : Int) = g4 a b c r := by simp [g4, Int.gcd]
  rw [e, if_neg (by omega), dv a ha (g4_dvd1 ..), dv b hb (g4_dvd2 ..), dv c hc (g4_dvd3 ..), dv r hr' (g4_dvd4 ..)]
  rfl
def cv (x : S23) : S24 := ⟨x.f0, x.f1, x.f2, x.f3⟩
theorem rdT_lt (l : List S24) (i : Nat) (h : i < l.length) : rd_T24 l (i : Int) = l[i] := by simp [rd_T24, h]
theorem rdT23_lt (l : List S23) (i : Nat) (h : i < l.length) : rd_T23 l (i : Int) = l[i] := by simp [rd_T23, h]
theorem toivs_loop (l : List S23) (hl : l.length ≤ 8796093022208) : ∀ (d i : Nat) (acc : List S24), acc.length = l.length → i + d = l.length → acc.take i = (l.map cv).take i →
    Ev (fun k => laws_toIntervalS.l0 k l acc (i : Int)) (l.map cv) := by
  intro d
  induction d with
  | zero =>
    intro i acc ha hi ht
    refine Ev_at1 fun k => ?_
    simp only [laws_toIntervalS.l0]
    rw [if_neg (by omega)]
    rw [List.take_of_length_le (by omega), List.take_of_length_le (by simp; omega)] at ht
    rw [ht]
  | succ d ih =>
    intro i acc ha hi ht
    refine Ev_round _ (fun k => ?_) (ih (i + 1) (acc.set i (cv (rd_T23 l (i : Int)))) (by simp [ha]) (by omega) ?_)
    · simp only [laws_toIntervalS.l0, laws_toInterval.f, Option.bind_some]
      rw [if_pos (by omega), if_pos (by omega), if_pos (by omega), wrap_id (by omega) (by omega)]
      simp [cv]
    · rw [List.take_succ_eq_append_getElem (by simp; omega), List.take_succ_eq_append_getElem (by simp; omega), List.getElem_set_self, List.take_set_of_le (Nat.le_refl _), ht]
      simp [rdT23_lt l i (by omega)]
theorem toivs_ev (l : List S23) (hl : l.length ≤ 8796093022208) : Ev (fun k => laws_toIntervalS.f k l) (l.map cv) := by
  refine Ev.congr (f := fun k => laws_toIntervalS.l0 k l (List.replicate l.length z24) ((0 : Nat) : Int)) (fun k => ?_) (toivs_loop l hl l.length 0 _ (by simp) (by simp) (by simp))
  unfold laws_toIntervalS.f
  rw [if_pos (by omega), if_pos (by omega)]
  simp
theorem eqivs_loop (l : List S24) (hl : l.length ≤ 8796093022208) : ∀ (d i : Nat), i + d = l.length → Ev (fun k => laws_eqIntervalS.l0 k l l (i : Int)) true := by
  intro d
  induction d with
  | zero =>
    intro i hi
    refine Ev_at1 fun k => ?_
    simp only [laws_eqIntervalS.l0]
    rw [if_neg (by omega)]
  | succ d ih =>
    intro i hi
    refine Ev_round _ (fun k => ?_) (ih (i + 1) (by omega))
    simp only [laws_eqIntervalS.l0, laws_eqInterval.f, if_true, Option.bind_some]
    rw [if_pos (by omega), if_pos (by omega), if_pos (by omega), wrap_id (by omega) (by omega)]
    rfl
theorem eqivs_self (l : List S24) (hl : l.length ≤ 8796093022208) : Ev (fun k => laws_eqIntervalS.f k l l) true := by
  unfold laws_eqIntervalS.f
  exact Ev.congr (fun k => if_pos rfl) (eqivs_loop l hl l.length 0 (by simp))
def OkS (x : S24) : Prop := Ok x.f0 x.f1 x.f2 x.f3
instance (x : S24) : Decidable (OkS x) := by unfold OkS; infer_instance
def spl (x : S24) : Q4 := simp4 x.f0 x.f1 x.f2 x.f3
def addQ (acc : List Q4) (q : Q4) : List Q4 := if q ∈ acc then acc else acc ++ [q]
theorem OkS.bds {x : S24} (h : OkS x) : 0 < x.f3 ∧ x.f0.natAbs ≤ 1000000000 ∧ x.f1.natAbs ≤ 1000000000 ∧ x.f2.natAbs ≤ 1000000000 ∧ x.f3.natAbs ≤ 1000000000 := by
  obtain ⟨h1, h2, h3, h4⟩ := h; omega
theorem wf_small {v : Int} (h : -1000 ≤ v ∧ v ≤ 1000) : (Lit.int .i64 v).wf = true := by
  simp [Lit.wf, IntKind.min, IntKind.max, IntKind.signed, IntKind.bits]; omega
theorem wf_spl {x : S24} (h : OkS x) : wf4 (spl x) := by
  obtain ⟨h1, h2, h3, h4⟩ := h
  obtain ⟨s1, s2, s3, s4, e, b1, b2, b3, b4⟩ := simp4_le (a := x.f0) (b := x.f1) (c := x.f2) (r := x.f3) (by omega) h2 h3 h4 h1.2
  unfold spl; rw [e]
  exact ⟨wf_small (v := s1) (by omega), wf_small (v := s2) (by omega), wf_small (v := s3) (by omega), wf_small (v := s4) (by omega)⟩
theorem any_key (acc : List Q4) (q : Q4) (ha : ∀ y ∈ acc, wf4 y) (hq : wf4 q) : (acc.map keyLit).any (fun y => y.sameKey (keyLit q)) = decide (q ∈ acc) := by
  rw [Bool.eq_iff_iff]
  simp only [List.any_eq_true, List.mem_map, decide_eq_true_eq]
  constructor
  · rintro ⟨_, ⟨y, hy, rfl⟩, h⟩
    have := (WideAt.sameKey_iff (keyLit_key q)).1 h
    rw [← keyLit_inj (ha y hy) hq this]; exact hy
  · intro h
    exact ⟨keyLit q, ⟨q, h, rfl⟩, (WideAt.sameKey_iff (keyLit_key q)).2 rfl⟩
theorem fold_key : ∀ (xs acc : List Q4), (∀ y ∈ acc, wf4 y) → (∀ y ∈ xs, wf4 y) → (xs.map keyLit).foldl Maps.addKey (acc.map keyLit) = (xs.foldl addQ acc).map keyLit
  | [], _, _, _ => rfl
  | q :: t, acc, ha, hx => by
    have hq := hx q (by simp)
    have e : Maps.addKey (acc.map keyLit) (keyLit q) = (addQ acc q).map keyLit := by
      unfold Maps.addKey addQ
      rw [any_key acc q ha hq]
      by_cases h : q ∈ acc
      · simp [h]
      · simp [h]
    rw [List.map_cons, List.foldl_cons, List.foldl_cons, e]
    refine fold_key t (addQ acc q) ?_ (fun y hy => hx y (by simp [hy]))
    intro y hy
    unfold addQ at hy
    split at hy
    · exact ha y hy
    · rcases List.mem_append.1 hy with hy | hy
      · exact ha y hy
      · rw [List.mem_singleton.1 hy]; exact hq
theorem mem_fold (q : Q4) : ∀ (xs acc : List Q4), q ∈ xs.foldl addQ acc ↔ q ∈ acc ∨ q ∈ xs
  | [], acc => by simp
  | y :: t, acc => by
    rw [List.foldl_cons, mem_fold q t (addQ acc y)]
    unfold addQ
    split
    · rename_i h
      constructor
      · rintro (h1 | h1)
        · exact .inl h1
        · exact .inr (by simp [h1])
      · rintro (h1 | h1)
        · exact .inl h1
        · rcases List.mem_cons.1 h1 with rfl | h1
          · exact .inl h
          · exact .inr h1
    · simp [or_assoc]
/-- How many different ones. -/
def uniq (xs : List Q4) : Nat := (xs.foldl addQ []).length
theorem uniq_snoc (xs : List Q4) (q : Q4) : uniq (xs ++ [q]) = if q ∈ xs then uniq xs else uniq xs + 1 := by
  unfold uniq
  rw [List.foldl_append, List.foldl_cons, List.foldl_nil, addQ]
  have := mem_fold q xs []
  by_cases h : q ∈ xs
  · rw [if_pos h, if_pos (this.2 (.inr h))]
  · rw [if_neg h, if_neg (fun m => by rcases this.1 m with m | m; simp at m; exact h m), List.length_append]; rfl
/-! impl: the map's keys. -/
theorem igo_ok : ∀ (l : List S24) (xs : List Q4), (∀ x ∈ l, OkS x) → (∀ q ∈ xs, wf4 q) → Ev (fun k => impl_CountSizes.go k l xs) ((uniq (xs ++ l.map spl) : Nat) : Int)
  | [], xs, _, hx => by
    refine Ev_eq fun k => ?_
    have := fold_key xs [] (by simp) hx
    rw [List.map_nil] at this
    rw [impl_CountSizes.go, this, List.length_map, List.map_nil, List.append_nil]; rfl
  | x :: t, xs, hl, hx => by
    have o := hl x (by simp)
    obtain ⟨b0, b1, b2, b3, b4⟩ := o.bds
    have ih := igo_ok t (xs ++ [spl x]) (fun y hy => hl y (by simp [hy])) (fun q hq => by
      rcases List.mem_append.1 hq with hq | hq
      · exact hx q hq
      · rw [List.mem_singleton.1 hq]; exact wf_spl o)
    rw [List.append_assoc] at ih
    refine Ev.congr (fun k => by rw [impl_CountSizes.go, iok_eq, Option.bind_some, if_pos (by simpa [OkS] using o)]) (Ev.bind (isimp_ev b0 b1 b2 b3 b4) (Ev.congr (fun k => if_pos (wf_spl o)) ih))
theorem igo_no : ∀ (l : List S24) (xs : List Q4), ¬ (∀ x ∈ l, OkS x) → (∀ q ∈ xs, wf4 q) → Ev (fun k => impl_CountSizes.go k l xs) 0
  | [], xs, h, _ => absurd (by simp) h
  | x :: t, xs, h, hx => by
    by_cases o : OkS x
    · obtain ⟨b0, b1, b2, b3, b4⟩ := o.bds
      have ih := igo_no t (xs ++ [spl x]) (fun g => h fun y hy => by
        rcases List.mem_cons.1 hy with rfl | hy
        · exact o
        · exact g y hy) (fun q hq => by
        rcases List.mem_append.1 hq with hq | hq
        · exact hx q hq
        · rw [List.mem_singleton.1 hq]; exact wf_spl o)
      exact Ev.congr (fun k => by rw [impl_CountSizes.go, iok_eq, Option.bind_some, if_pos (by simpa [OkS] using o)]) (Ev.bind (isimp_ev b0 b1 b2 b3 b4) (Ev.congr (fun k => if_pos (wf_spl o)) ih))
    · exact Ev_eq fun k => by rw [impl_CountSizes.go, iok_eq, Option.bind_some, if_neg (by simpa [OkS] using o)]
/-! spec: a fresh one is none of those ahead. -/
theorem rdm (l : List S24) (i : Nat) (h : i < l.length) : rd_T24 l (i : Int) ∈ l := by rw [rdT_lt l i h]; exact List.getElem_mem _
theorem take_map (l : List S24) (i : Nat) (h : i < l.length) : (l.take (i + 1)).map spl = (l.take i).map spl ++ [spl (rd_T24 l (i : Int))] := by
  rw [rdT_lt l i h, List.take_succ_eq_append_getElem h, List.map_append]; rfl
theorem ne4 (p q : Q4) : (!(p.1 == q.1) || (!(p.2.1 == q.2.1) || (!(p.2.2.1 == q.2.2.1) || (!(p.2.2.2 == q.2.2.2))))) = decide (p ≠ q) := by
  obtain ⟨p0, p1, p2, p3⟩ := p
  obtain ⟨q0, q1, q2, q3⟩ := q
  by_cases h0 : p0 = q0 <;> by_cases h1 : p1 = q1 <;> by_cases h2 : p2 = q2 <;> by_cases h3 : p3 = q3 <;> simp [h0, h1, h2, h3]
theorem s1_loop (l : List S24) (hl : l.length ≤ 8796093022208) (i : Nat) (hi : i < l.length) (n : Int) (ok : ∀ j : Nat, j ≤ i → OkS (rd_T24 l (j : Int))) {v : Int}
    (h : Ev (fun k => spec_CountSizes.l0 k l (if spl (rd_T24 l (i : Int)) ∈ (l.take i).map spl then n else wrap64 (n + 1)) (wrap64 ((i : Int) + 1))) v) : ∀ (d j : Nat), j + d = i →
    Ev (fun k => spec_CountSizes.l1 k l n (i : Int) (decide (spl (rd_T24 l (i : Int)) ∉ (l.take j).map spl)) (j : Int)) v := by
  intro d
  induction d with
  | zero =>
    intro j hj
    obtain rfl : j = i := by omega
    refine Ev_round _ (fun k => ?_) h
    rw [spec_CountSizes.l1, if_neg (by omega)]
    by_cases m : spl (rd_T24 l (j : Int)) ∈ (l.take j).map spl
    · rw [if_neg (by simpa using m), if_pos m]
    · rw [if_pos (by simpa using m), if_neg m]
  | succ d ih =>
    intro j hj
    have ihj := ih (j + 1) (by omega)
    have w : wrap64 ((j : Int) + 1) = ((j + 1 : Nat) : Int) := by rw [wrap_id (by omega) (by omega)]; rfl
    by_cases m : spl (rd_T24 l (i : Int)) ∈ (l.take j).map spl
    · refine Ev_round _ (fun k => ?_) ihj
      rw [spec_CountSizes.l1, if_pos (by omega), if_neg (by simpa using m), w, take_map l j (by omega)]
      congr 1
      rw [eq_comm, decide_eq_false_iff_not]
      exact fun g => g (List.mem_append_left _ m)
    · obtain ⟨b0, b1, b2, b3, b4⟩ := (ok j (by omega)).bds
      obtain ⟨e0, e1, e2, e3, e4⟩ := (ok i (Nat.le_refl _)).bds
      refine Ev_round (fun k => (spec_l03Simple.f k ((rd_T24 l (j : Int)).f0) ((rd_T24 l (j : Int)).f1) ((rd_T24 l (j : Int)).f2) ((rd_T24 l (j : Int)).f3)).bind fun bt114 => ((spec_l03Simple.f k ((rd_T24 l (i : Int)).f0) ((rd_T24 l (i : Int)).f1) ((rd_T24 l (i : Int)).f2) ((rd_T24 l (i : Int)).f3)).bind fun bt119 => (spec_CountSizes.l1 k l n (i : Int) (!(bt114.1 == bt119.1) || (!(bt114.2.1 == bt119.2.1) || (!(bt114.2.2.1 == bt119.2.2.1) || (!(bt114.2.2.2 == bt119.2.2.2))))) (((j + 1 : Nat) : Int))))) (fun k => ?_) (Ev.bind (ssimp_ev b0 b1 b2 b3 b4) (Ev.bind (ssimp_ev e0 e1 e2 e3 e4) (Ev.congr (fun k => ?_) ihj)))
      · rw [spec_CountSizes.l1, if_pos (by omega), if_pos (by simpa using m), if_pos (by omega), if_pos (by omega)]
        congr 1; funext bt114
        rw [if_pos (by omega), if_pos (by omega), w]
      · show spec_CountSizes.l1 k l n (i : Int) (!((spl (rd_T24 l (j : Int))).1 == (spl (rd_T24 l (i : Int))).1) || (!((spl (rd_T24 l (j : Int))).2.1 == (spl (rd_T24 l (i : Int))).2.1) || (!((spl (rd_T24 l (j : Int))).2.2.1 == (spl (rd_T24 l (i : Int))).2.2.1) || (!((spl (rd_T24 l (j : Int))).2.2.2 == (spl (rd_T24 l (i : Int))).2.2.2))))) _ = _
        rw [ne4, take_map l j (by omega)]
        congr 1
        rw [decide_eq_decide]
        constructor
        · intro g g'
          rcases List.mem_append.1 g' with g' | g'
          · exact m g'
          · exact g (List.mem_singleton.1 g').symm
        · intro g g'
          exact g (List.mem_append_right _ (by rw [g']; simp))
theorem s0_loop (l : List S24) (hl : l.length ≤ 1048576) : ∀ (d i : Nat), i + d = l.length → (∀ j : Nat, j < i → OkS (rd_T24 l (j : Int))) →
    Ev (fun k => spec_CountSizes.l0 k l ((uniq ((l.take i).map spl) : Nat) : Int) (i : Int)) (if ∀ x ∈ l, OkS x then ((uniq (l.map spl) : Nat) : Int) else 0) := by
  intro d
  induction d with
  | zero =>
    intro i hi ok
    refine Ev_at1 fun k => ?_
    rw [spec_CountSizes.l0, if_neg (by omega), if_pos (fun x hx => by
      obtain ⟨j, hj, rfl⟩ := List.mem_iff_getElem.1 hx
      rw [← rdT_lt l j hj]; exact ok j (by omega)), List.take_of_length_le (by omega)]
  | succ d ih =>
    intro i hi ok
    by_cases o : OkS (rd_T24 l (i : Int))
    · have ok' : ∀ j : Nat, j < i + 1 → OkS (rd_T24 l (j : Int)) := fun j hj => by
        rcases Nat.lt_or_ge j i with q | q
        · exact ok j q
        · rw [show j = i by omega]; exact o
      have ihi := ih (i + 1) (by omega) ok'
      have hu : uniq ((l.take i).map spl) ≤ i := by
        have : ∀ (xs acc : List Q4), (xs.foldl addQ acc).length ≤ acc.length + xs.length := by
          intro xs
          induction xs with
          | nil => intro acc; simp
          | cons y t iht =>
            intro acc
            rw [List.foldl_cons, List.length_cons]
            have := iht (addQ acc y)
            have h2 : (addQ acc y).length ≤ acc.length + 1 := by unfold addQ; split <;> simp
            omega
        have := this ((l.take i).map spl) []
        simp only [List.length_nil, List.length_map, List.length_take] at this
        unfold uniq; omega
      have w : wrap64 ((i : Int) + 1) = ((i + 1 : Nat) : Int) := by rw [wrap_id (by omega) (by omega)]; rfl
      rw [take_map l i (by omega), uniq_snoc] at ihi
      have hs := s1_loop l (by omega) i (by omega) ((uniq ((l.take i).map spl) : Nat) : Int) (fun j hj => ok' j (by omega)) (v := if ∀ x ∈ l, OkS x then ((uniq (l.map spl) : Nat) : Int) else 0) (by
        rw [w]
        by_cases m : spl (rd_T24 l (i : Int)) ∈ (l.take i).map spl
        · rw [if_pos m] at ihi ⊢; exact ihi
        · rw [if_neg m] at ihi ⊢
          rw [wrap_id (by omega) (by omega)]; exact ihi) i 0 (by omega)
      refine Ev_round _ (fun k => ?_) hs
      rw [spec_CountSizes.l0, if_pos (by omega), if_pos (by omega), sok_eq, Option.bind_some, if_pos (by simpa [OkS] using o)]
      simp
    · refine Ev_at1 fun k => ?_
      rw [spec_CountSizes.l0, if_pos (by omega), if_pos (by omega), sok_eq, Option.bind_some, if_neg (by simpa [OkS] using o), if_neg (fun g => o (g _ (rdm l i (by omega))))]
theorem both (l : List S24) (hl : l.length ≤ 1048576) : ∃ v, Ev (fun k => spec_CountSizes.f k l) v ∧ Ev (fun k => impl_CountSizes.f k l) v := by
  refine ⟨if ∀ x ∈ l, OkS x then ((uniq (l.map spl) : Nat) : Int) else 0, ?_, ?_⟩
  · have := s0_loop l hl l.length 0 (by omega) (fun j hj => by omega)
    exact this
  · refine Ev.congr (f := fun k => impl_CountSizes.go k l []) (fun k => if_pos hl) ?_
    by_cases g : ∀ x ∈ l, OkS x
    · rw [if_pos g]; exact igo_ok l [] g (by simp)
    · rw [if_neg g]; exact igo_no l [] g (by simp)
theorem main (l : List S23) (hl : l.length ≤ 9223372036854775807) : ∃ k, laws_FnExactCountSizes.f k l = some true := by
  refine Ev.rounds ?_
  unfold laws_FnExactCountSizes.f laws_szIntervalS.f
  rw [wrap_id (n := 1048576 - (l.length : Int)) (by omega) (by omega)]
  by_cases hb : 1048576 - (l.length : Int) < 0
  · exact Ev_eq fun k => by rw [if_pos hb]; rfl
  have hl8 : l.length ≤ 8796093022208 := by omega
  have hm : (l.map cv).length ≤ 8796093022208 := by simpa using hl8
  obtain ⟨v, h1, h2⟩ := both (l.map cv) (by rw [List.length_map]; omega)
  refine Ev_bindE (fun k => if_neg hb) (Ev.congr (fun k => by rw [if_neg hb]) (Ev.bind (toivs_ev l hl8) (Ev.bind h1 (Ev.bind (toivs_ev l hl8) (Ev.bind h2 (Ev.congr (fun k => if_pos rfl) (Ev.bind (toivs_ev l hl8) (Ev.bind (eqivs_self _ hm) (Ev_eq fun k => if_pos rfl)))))))))

end Go.Proofs.Ythkkibepninneaa.PureFnExactCountSizes
