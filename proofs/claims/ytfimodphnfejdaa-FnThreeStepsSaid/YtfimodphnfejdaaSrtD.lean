/- impl.ChainOf over sort.SliceStable: what it hands back, given what its callees answer. -/
import Derived.Test.YtfimodphnfejdaaSrtC
namespace Go.Proofs.Ytfimodphnfejdaa.Srt
open Go.Shelf Go.RowKit Go.Lib Go.Sort Go.Proofs.YtfimodphnfejdaaW.PrintWords Go.Proofs.YtfimodphnfejdaaW.PrintLast Go.Proofs.YtfimodphnfejdaaW.PrintMore
set_option linter.unusedVariables false
set_option linter.unusedSimpArgs false
theorem bx_lt {w1 : World} {ob : Nat} {v : Value} (h : w1.heap[ob]? = some (.cells #[v] 45 (0, 0))) : ob < w1.heap.size := (Array.getElem?_eq_some_iff.1 h).1
theorem bx_keep {wr w1 : World} {ob : Nat} {v : Value} (h : wr.heap[ob]? = some (.cells #[v] 45 (0, 0))) (hb : Below wr.heap.size wr w1) : w1.heap[ob]? = some (.cells #[v] 45 (0, 0)) := (hb.block _ (bx_lt h)).trans h
theorem bx_alloc {w1 : World} {ob : Nat} {v : Value} (h : w1.heap[ob]? = some (.cells #[v] 45 (0, 0))) (o : Obj) : (w1.alloc o).heap[ob]? = some (.cells #[v] 45 (0, 0)) := (((Below.refl w1.heap.size w1).alloc (Nat.le_refl _) o).block _ (bx_lt h)).trans h
theorem bx_cell {w1 : World} {ob : Nat} {v : Value} (h : w1.heap[ob]? = some (.cells #[v] 45 (0, 0))) : w1.cell? ⟨ob, 0, none⟩ = some v := by simp [World.cell?, h]
theorem bx_frozen {w1 : World} {ob : Nat} {v : Value} (h : w1.heap[ob]? = some (.cells #[v] 45 (0, 0))) : w1.frozen? ⟨ob, 0, none⟩ = false := by simp [World.frozen?, h]
theorem four_new (W : World) (c0 c1 c2 c3 : Value) (T : Nat) (g : Nat) (hg : g = W.heap.size) : ∀ j u, [c0, c1, c2, c3][j]? = some u → (W.alloc (.cells #[c0, c1, c2, c3] T)).cell? ((⟨g, 0, none⟩ : Addr).add j) = some u := by
  subst hg
  intro j u hj
  match j, hj with
  | 0, hj => simp at hj; subst hj; simp [Go.Addr.add]
  | 1, hj => simp at hj; subst hj; simp [Go.Addr.add]
  | 2, hj => simp at hj; subst hj; simp [Go.Addr.add]
  | 3, hj => simp at hj; subst hj; simp [Go.Addr.add]
  | n + 4, hj => simp at hj
theorem own_kept {w w1 : World} {base n : Nat} {v : Value} {xs : List Value} (h : w.ownsRow base 25 4 v n xs) (hb : Below w.heap.size w w1) : w1.ownsRow base 25 4 v n xs :=
  h.kept (row := none) ⟨hb.os, hb.tape, hb.output, hb.size, fun k hk _ => hb.block k hk⟩ (Classical.em _)
theorem own_not_box {w : World} {base n ob : Nat} {v u : Value} {xs : List Value} (h : w.ownsRow base 25 4 v n xs) (hb : w.heap[ob]? = some (.cells #[u] 45 (0, 0))) : v.ownBlock ≠ some ob := fun e => by
  obtain ⟨cs, hc⟩ := own_typed h ob e
  rw [hb] at hc; simp at hc
theorem own_form {w : World} {base n : Nat} {v : Value} {xs : List Value} (h : w.ownsRow base 25 4 v n xs) : ∃ (p : Option Addr) (c : Nat), v = .slice p n c := by
  rcases h.2 with ⟨rfl, rfl⟩ | ⟨g, cap, cur, rfl, _⟩
  · exact ⟨none, 0, rfl⟩
  · exact ⟨_, cap, rfl⟩
theorem flat_get : ∀ (l : List E) (j : Nat), j < l.length * 4 → (l.flatMap ec)[j]? = some ((ec (l[j / 4]!))[j % 4]!)
  | [], j, h => by simp at h
  | x :: r, j, h => by
    rw [List.flatMap_cons]
    by_cases h4 : j < 4
    · rw [List.getElem?_append_left (by rw [ec_len]; exact h4)]
      obtain rfl | rfl | rfl | rfl : j = 0 ∨ j = 1 ∨ j = 2 ∨ j = 3 := by omega
      all_goals rfl
    · obtain ⟨t, rfl⟩ : ∃ t, j = t + 4 := ⟨j - 4, by omega⟩
      rw [List.getElem?_append_right (by rw [ec_len]; omega), ec_len, Nat.add_sub_cancel, flat_get r t (by simp at h; omega), Nat.add_div_right _ (by omega), Nat.add_mod_right]
      simp
theorem flatK_get (d : Array E) (j : Nat) (h : j < d.size * 4) : (d.toList.flatMap ec)[j]? = some ((flatK ec 4 d)[j]!) := by
  rw [flat_get _ _ (by simpa using h), get_flatK _ _ _ _ h]
  have e : d.toList[j / 4]! = d[j / 4]! := by rw [getElem!_pos d (j / 4) (by omega), getElem!_pos d.toList (j / 4) (by simp; omega)]; exact Array.getElem_toList _
  rw [e]
theorem holds_of_own {w : World} {base g n c : Nat} {d : Array E} (h : w.ownsRow base 25 4 (.slice (some ⟨g, 0, none⟩) n c) n (d.toList.flatMap ec)) (hd : d.size = n) : HoldsK ec 4 w g 0 d := fun j hj => by
  rw [size_flatK] at hj
  rw [show (0 : Nat) + j = j from Nat.zero_add j]
  exact ⟨(h.cellAt j (by omega)).trans (flatK_get d j hj), h.frozenAt j⟩
theorem own_of_holds {w W : World} {base g n c : Nat} {xs : List Value} {d : Array E} (h : w.ownsRow base 25 4 (.slice (some ⟨g, 0, none⟩) n c) n xs) (hs : St w W g 0 d) (hd : d.size = n) : W.ownsRow base 25 4 (.slice (some ⟨g, 0, none⟩) n c) n (d.toList.flatMap ec) := by
  have hl : (d.toList.flatMap ec).length = n * 4 := by
    rw [← hd]
    have : ∀ l : List E, (l.flatMap ec).length = l.length * 4 := fun l => by
      induction l with
      | nil => rfl
      | cons a r ih => rw [List.flatMap_cons, List.length_append, ih, ec_len, List.length_cons]; omega
    rw [this, Array.length_toList]
  refine ⟨hl, ?_⟩
  rcases h.2 with ⟨h', _⟩ | ⟨g', cap', cur, h', hb, hg, hnc, hcm, hcs, _⟩
  · simp at h'
  · simp only [Value.slice.injEq, Option.some.injEq, Addr.mk.injEq, and_true, true_and] at h'
    obtain ⟨rfl, rfl⟩ := h'
    obtain ⟨cur', h1, h2⟩ := hs.shape cur 25 (0, 0) hg
    refine .inr ⟨g, c, cur', rfl, hb, h1, hnc, hcm, h2.trans hcs, List.ext_getElem? fun j => ?_⟩
    rw [List.getElem?_take]
    by_cases hj : j < n * 4
    · rw [if_pos hj, flatK_get d j (by omega)]
      have := (hs.holds j (by rw [size_flatK]; omega)).1
      rw [Nat.zero_add, cell_of_row W g j cur' 25 (0, 0) h1] at this
      simpa using this
    · rw [if_neg hj, List.getElem?_eq_none (by omega)]
theorem from_perm (P : E → Prop) {a b : Nat} {d d' : Array E} (h : ∀ i, i < d.size → P d[i]!) (hb : b ≤ d.size) (hp : PermIn a b d d') : ∀ i, i < d'.size → P d'[i]! := by
  intro i hi
  by_cases c : i < a ∨ b ≤ i
  · rw [hp.2.1 i c]; exact h i (by rw [← hp.1]; exact hi)
  · have m : d'[i]! ∈ (d'.extract a b).toList := by
      rw [Array.mem_toList_iff, Array.mem_extract_iff_getElem]
      exact ⟨i - a, by have := hp.1; omega, by rw [getElem!_pos d' i hi]; congr 1; omega⟩
    have m2 := hp.2.2.subset m
    rw [Array.mem_toList_iff, Array.mem_extract_iff_getElem] at m2
    obtain ⟨q, hq, e⟩ := m2
    rw [← e, ← getElem!_pos d (a + q) (by omega)]
    exact h _ (by omega)
theorem perm_all {d d' : Array E} (hp : PermIn 0 d.size d d') : d'.toList.Perm d.toList := by
  have h2 := hp.2.2
  have e1 : d'.extract 0 d.size = d' := by rw [← hp.1]; exact Array.extract_size
  have e2 : d.extract 0 d.size = d := Array.extract_size
  rw [e1, e2] at h2
  exact h2
theorem start_box (w : World) (n : Nat) (o : Obj) (v : Value) : (((w.drewN n).alloc o).alloc (.cells #[v] 45)).heap[w.heap.size + 1]? = some (.cells #[v] 45 (0, 0)) := by
  have := heap_alloc_new ((w.drewN n).alloc o) (.cells #[v] 45)
  rw [show ((w.drewN n).alloc o).heap.size = w.heap.size + 1 by simp] at this
  exact this
theorem start_below (w : World) (n : Nat) (o o' : Obj) : Below w.heap.size w (((w.drewN n).alloc o).alloc o') := by
  have h : Below w.heap.size w (w.drewN n) := ⟨rfl, rfl, rfl, Nat.le_refl _, fun _ _ => rfl⟩
  exact (h.alloc (Nat.le_refl _) o).alloc (by simp) o'
/-- The sort's call. -/
theorem sort_step (fe : Int → E) (lt : E → E → Bool) (O : SWO lt) (low high : Int) (base g cc N ob : Nat) (w : World) (hbase : base ≤ w.heap.size) (hN : 0 < N) (hN2 : N < 1000) (d : Array E) (hd : d.size = N)
    (hS : ∀ i, i < d.size → ∃ n, low ≤ n ∧ n ≤ high ∧ d[i]! = fe n)
    (hbox : w.heap[ob]? = some (.cells #[.slice (some ⟨g, 0, none⟩) N cc] 45 (0, 0))) (hown : w.ownsRow base 25 4 (.slice (some ⟨g, 0, none⟩) N cc) N (d.toList.flatMap ec))
    (hcm : ∀ n m W, low ≤ n → n ≤ high → low ≤ m → m ≤ high → Calls Try.prog 30 #[.agg #[.int .i64 (fe n).1, .int .i64 (fe n).2.1, .int .i64 (fe n).2.2.1, .int .i64 (fe n).2.2.2], .agg #[.int .i64 (fe m).1, .int .i64 (fe m).2.1, .int .i64 (fe m).2.2.1, .int .i64 (fe m).2.2.2]] W fun e w' => (∃ v, e = .returned (.int .i64 v) ∧ decide (v < 0) = lt (fe n) (fe m)) ∧ Below W.heap.size W w') :
    Calls Try.prog 54 #[.iface 45 (.slice (some ⟨g, 0, none⟩) N cc), .func (.func 55) #[] #[.pointer (some ⟨ob, 0, none⟩)]] w fun e w' => e = .returned (.tuple #[]) ∧ ∃ d' : Array E, d'.size = N ∧ SortedIn lt 0 d'.size d' ∧ d'.toList.Perm d.toList ∧ w'.ownsRow base 25 4 (.slice (some ⟨g, 0, none⟩) N cc) N (d'.toList.flatMap ec) ∧ w'.heap[ob]? = some (.cells #[.slice (some ⟨g, 0, none⟩) N cc] 45 (0, 0)) ∧ Below base w w' := by
  by_cases h1 : N = 1
  · subst h1
    have hc := sliceStable_one 55 #[.pointer (some ⟨ob, 0, none⟩)] g 0 cc w
    refine Calls.mono hc ?_
    rintro e w' ⟨he, hb⟩
    exact ⟨he, d, hd, fun i j h1 h2 h3 => by omega, List.Perm.refl _, own_kept hown hb, bx_keep hbox hb, hb.mono hbase⟩
  · have hg : g < w.heap.size := hown.lt g rfl |>.2
    have hne : ob ≠ g := fun e => own_not_box hown hbox (by rw [e]; rfl)
    have hH := holds_of_own hown hd
    subst hd
    have hless : LessG Try.prog 55 #[.pointer (some ⟨ob, 0, none⟩)] lt (fun d' => d'.size = d.size ∧ ∀ i, i < d'.size → ∃ n, low ≤ n ∧ n ≤ high ∧ d'[i]! = fe n) g 0 w := by
      intro W d' i j hst hSd hi hj
      obtain ⟨n, n1, n2, en⟩ := hSd.2 i hi
      obtain ⟨m, m1, m2, em⟩ := hSd.2 j hj
      have hcell : W.cell? ⟨ob, 0, none⟩ = some (.slice (some ⟨g, 0, none⟩) d.size cc) := by
        rw [hst.cell (a := ⟨ob, 0, none⟩) (bx_lt hbox) hne]; exact bx_cell hbox
      have hc := less_calls g 0 cc ob d.size W d' hcell hst.holds hSd.1 (by omega) i j (by have := hSd.1; omega) (by have := hSd.1; omega) (fe n) (fe m) en em (lt (fe n) (fe m)) (fun W' => hcm n m W' n1 n2 m1 m2)
      rw [en, em]
      exact hc
    have hc := sliceStable_calls 55 #[.pointer (some ⟨ob, 0, none⟩)] g 0 cc w hg (fun _ _ => rfl) lt O (fun d' => d'.size = d.size ∧ ∀ i, i < d'.size → ∃ n, low ≤ n ∧ n ≤ high ∧ d'[i]! = fe n)
      (fun d1 d2 a b h1 h2 h3 => ⟨h3.1.trans h1.1, from_perm (fun q => ∃ n, low ≤ n ∧ n ≤ high ∧ q = fe n) h1.2 h2 h3⟩) hless d hH ⟨rfl, hS⟩ (by omega) (by omega)
    refine Calls.mono hc ?_
    rintro e w' ⟨he, d', hs, hp, hst⟩
    refine ⟨he, d', hp.1, by rw [hp.1]; exact hs, perm_all hp, own_of_holds hown hst hp.1, (hst.grown.block ob (bx_lt hbox) (fun e => hne (Option.some.inj e))).trans hbox, ?_⟩
    exact Below.grown (Below.refl _ _) hst.grown hbase (fun k hk => by rw [← Option.some.inj hk]; exact (hown.lt g rfl).1)
set_option maxHeartbeats 8000000 in
set_option maxRecDepth 100000 in
theorem chain_calls (fe : Int → E) (lt : E → E → Bool) (O : SWO lt) (low high : Int) (hlo : -30 ≤ low) (hhi : high ≤ 30) (hle : low ≤ high) (w : World)
    (hwi : ∀ x W, -30 ≤ x → x ≤ 30 → Calls Try.prog 48 #[.int .i64 x, .int .i64 (-30), .int .i64 30] W fun e w' => e = .returned (.bool true) ∧ ∃ n, w' = W.drewN n)
    (hfi : ∀ n W, low ≤ n → n ≤ high → Calls Try.prog 21 #[.int .i64 n] W fun e w' => e = .returned (.tuple #[.agg #[.int .i64 (fe n).1, .int .i64 (fe n).2.1, .int .i64 (fe n).2.2.1, .int .i64 (fe n).2.2.2], .bool true]) ∧ Below W.heap.size W w')
    (hcm : ∀ n m W, low ≤ n → n ≤ high → low ≤ m → m ≤ high → Calls Try.prog 30 #[.agg #[.int .i64 (fe n).1, .int .i64 (fe n).2.1, .int .i64 (fe n).2.2.1, .int .i64 (fe n).2.2.2], .agg #[.int .i64 (fe m).1, .int .i64 (fe m).2.1, .int .i64 (fe m).2.2.1, .int .i64 (fe m).2.2.2]] W fun e w' => (∃ v, e = .returned (.int .i64 v) ∧ decide (v < 0) = lt (fe n) (fe m)) ∧ Below W.heap.size W w') :
    Calls Try.prog 35 #[.int .i64 low, .int .i64 high] w fun e w' => ∃ (v : Value) (d' : Array E), e = .returned v ∧ w'.ownsRow w.heap.size 25 4 v d'.size (d'.toList.flatMap ec) ∧ SortedIn lt 0 d'.size d' ∧ d'.toList.Perm ((List.range (high - low + 1).toNat).map (fun t : Nat => fe (low + (t : Int)))) ∧ Below w.heap.size w w' := by
  have HWI := Aside0.mk hwi
  have HFI := Aside0.mk hfi
  have HCM := Aside0.mk hcm
  have c1 : decide (high < low) = false := decide_eq_false (by omega)
  clear hwi hfi hcm
  go_enter Try.func35, Try.ntmps35
  go_wp2_with (go_at_call 48; first | (with_reducible refine (HWI.out low _ hlo (by omega)).mono ?_; rintro e w' ⟨rfl, n1, rfl⟩) | (with_reducible refine (HWI.out high _ (by omega) hhi).mono ?_; rintro e w' ⟨rfl, n2, rfl⟩))
  obtain ⟨N, hN⟩ : ∃ N : Nat, (N : Int) = high - low + 1 := ⟨(high - low + 1).toNat, by omega⟩
  obtain ⟨i0, hi0, hz0, hz1, hz2⟩ := info_parts (show (Try.prog.info? 25).map (fun i => (i.zero, i.size, i.bytes)) = some (some (.agg #[.int .i64 0, .int .i64 0, .int .i64 0, .int .i64 0]), 4, 32) by kernel_rfl)
  have HN := Aside0.mk hN
  clear hN
  go_loopg [6] (N + 1) (fun kq v6 wr => ∃ (x : Int) (i : Nat) (v : Value), v6 = .int .i64 x ∧ Aside0 (x = low + (i : Int) ∧ i ≤ N ∧ N + 1 ≤ i + kq) ∧ Aside0 (wr.heap[w.heap.size + 1]? = some (.cells #[v] 45 (0, 0))) ∧ Aside0 (wr.ownsRow w.heap.size 25 4 v i ((List.range i).flatMap (fun t : Nat => ec (fe (low + (t : Int)))))) ∧ Aside0 (Below w.heap.size w wr))
  case atStart => exact ⟨low, 0, _, rfl, ⟨by have := HN.out; omega⟩, ⟨start_box w (n1 + n2) _ _⟩, ⟨by
      have := World.ownsRow.alloc (World.ownsRow_made (base := w.heap.size) (e := 25) (size := 4) (w.drewN (n1 + n2)) #[] 0 (Nat.le_refl _) (by unfold maxLen; omega) rfl) (.cells #[.slice (some ⟨w.heap.size, 0, none⟩) 0 0] 45)
      exact this⟩, ⟨start_below w _ _ _⟩⟩
  case round =>
    obtain ⟨x, i, v, rfl, HX, HBx, HO, HB⟩ := hrel
    by_cases hxh : x ≤ high
    · have hxl : low ≤ x := by have := HX.out; omega
      have HXL := Aside0.mk (And.intro hxl hxh)
      clear hxl
      have HI : Aside0 (i + 1 ≤ maxLen ∧ (i + 1) * 32 ≤ 140737488355328 ∧ i + 1 ≤ N) := ⟨by have := HX.out; have := HN.out; unfold maxLen; omega⟩
      have hnoc : ∀ u ∈ [Value.int .i64 (fe x).1, Value.int .i64 (fe x).2.1, Value.int .i64 (fe x).2.2.1, Value.int .i64 (fe x).2.2.2], u.oneCell' = true := fun u hu => by
        simp at hu; rcases hu with rfl | rfl | rfl | rfl <;> rfl
      have HNO := Aside0.mk hnoc
      have HZ := Aside0.mk (And.intro hi0 (And.intro hz0 (And.intro hz1 hz2)))
      clear hnoc
      go_wp2_with (first | (go_at_call 21; with_reducible refine (HFI.out x _ HXL.out.1 HXL.out.2).mono ?_; rintro e w1 ⟨rfl, hb1⟩; have B1 := Aside0.mk hb1; have HB1 := Aside0.mk (bx_keep HBx.out hb1); have hc1 : ∀ o, (w1.alloc o).cell? ⟨w.heap.size + 1, 0, none⟩ = some v := (fun o => bx_cell (bx_alloc HB1.out o)); clear hb1) | (at_builtin; refine wpList_append_own_at _ rfl _ _ 45 rfl w.heap.size 25 i0 (.agg #[.int .i64 0, .int .i64 0, .int .i64 0, .int .i64 0]) 4 32 Try.underlying45 HZ.out.1 HZ.out.2.1 HZ.out.2.2.1 HZ.out.2.2.2 rfl (by decide) v i _ rfl (World.ownsRow.alloc (World.ownsRow.alloc (own_kept HO.out B1.out) _) _) ⟨w1.heap.size + 1, 0, none⟩ 1 1 [.int .i64 (fe x).1, .int .i64 (fe x).2.1, .int .i64 (fe x).2.2.1, .int .i64 (fe x).2.2.2] rfl rfl (four_new _ _ _ _ _ 25 _ (by simp)) HNO.out HI.out.1 HI.out.2.1 (by have := HB.out.size; have := B1.out.size; simp; omega) ?_; intro v' w2 hown2 hgrow2 hnil2 hloc2; obtain ⟨p2, cc2, rfl⟩ := own_form hown2; have HO2 := Aside0.mk hown2; have HG2 := Aside0.mk hgrow2; have HBX2 := Aside0.mk (show w2.heap[w.heap.size + 1]? = some (.cells #[v] 45 (0, 0)) from ((hgrow2.block _ (bx_lt (bx_alloc (bx_alloc HB1.out _) _)) (fun e => own_not_box (own_kept HO.out B1.out) HB1.out e.symm)).trans (bx_alloc (bx_alloc HB1.out _) _))); have hc2 := bx_cell HBX2.out; have hf2 := bx_frozen HBX2.out; clear hown2 hgrow2 hnil2 hloc2))
      obtain ⟨k1, rfl⟩ : ∃ k1, gk = k1 + 1 := ⟨gk - 1, by have := HX.out; have := HI.out; omega⟩
      go_roundg k1
      case measure => omega
      case rel => exact ⟨wrap64 (x + 1), i + 1, _, (by first | rfl | (simp; done) | (simp [*]; done)), ⟨by have := HX.out; have := HI.out; unfold wrap64; omega⟩, ⟨one_setCell HBX2.out⟩, ⟨by
        have := ownsRow_setCell_other HO2.out (a := ⟨w.heap.size + 1, 0, none⟩) (own_not_box HO2.out HBX2.out) (.slice p2 (i + 1) cc2)
        rw [List.range_succ, List.flatMap_append, List.flatMap_singleton, ← HX.out.1]
        exact this⟩, ⟨Below.setCell (Below.grown ((((HB.out.trans (B1.out.mono HB.out.size)).alloc (Nat.le_trans HB.out.size B1.out.size) _).alloc (by have := HB.out.size; have := B1.out.size; simp; omega) _)) HG2.out (by have := HB.out.size; have := B1.out.size; simp; omega) (own_base HO.out)) (Nat.le_succ _) _⟩⟩
    · obtain rfl : i = N := by have := HX.out; have := HN.out; omega
      have hNp : 0 < i := by have := HN.out; omega
      obtain ⟨g, cc, hv⟩ : ∃ g cc, v = .slice (some ⟨g, 0, none⟩) i cc := by
        rcases HO.out.2 with ⟨_, e⟩ | ⟨g, cc, cur, e, _⟩
        · omega
        · exact ⟨g, cc, e⟩
      subst hv
      have hcB := bx_cell HBx.out
      have hcond : decide (x ≤ high) = false := decide_eq_false hxh
      have hperm0 : ((List.range i).map (fun t : Nat => fe (low + (t : Int)))).toArray.toList = (List.range i).map (fun t : Nat => fe (low + (t : Int))) := rfl
      have hfl : (List.range i).flatMap (fun t : Nat => ec (fe (low + (t : Int)))) = (((List.range i).map (fun t : Nat => fe (low + (t : Int)))).toArray.toList).flatMap ec := by
        rw [hperm0, List.flatMap_map]
      have HSort := Aside0.mk (sort_step fe lt O low high w.heap.size g cc i (w.heap.size + 1) wr HB.out.size hNp (by have := HN.out; omega) ((List.range i).map (fun t : Nat => fe (low + (t : Int)))).toArray (by simp)
        (fun q hq => ⟨low + (q : Int), by omega, by simp at hq; have := HN.out; omega, by simp at hq; simp [hq]⟩) HBx.out (by rw [← hfl]; exact HO.out) HCM.out)
      clear hfl hperm0
      go_wp2_with (go_at_call 54; with_reducible refine HSort.out.mono ?_; rintro e w9 ⟨rfl, d', hd', hs9, hp9, ho9, hb9, hB9⟩; have hcB9 := bx_cell hb9; have HD9 := Aside0.mk (And.intro hd' (And.intro hs9 (And.intro hp9 (And.intro ho9 hB9)))); clear hd' hs9 hp9 ho9 hB9 hb9)
      go_ret
      obtain ⟨hd', hs9, hp9, ho9, hB9⟩ := HD9.out
      exact ⟨_, d', rfl, by rw [hd']; exact ho9, hs9, by rw [show (high - low + 1).toNat = i by have := HN.out; omega]; exact hp9, HB.out.trans hB9⟩
end Go.Proofs.Ytfimodphnfejdaa.Srt
