/- sort.stable_func at a slice of records of four whole numbers: the row is sorted. -/
import Derived.Test.YtfimodphnfejdaaSrtM
namespace Go.Proofs.Ytfimodphnfejdaa.Srt
open Go.Shelf Go.RowKit Go.Lib Go.Sort Go.Proofs.YtfimodphnfejdaaW.PrintWords Go.Proofs.YtfimodphnfejdaaW.PrintLast Go.Proofs.YtfimodphnfejdaaW.PrintMore
set_option linter.unusedVariables false
set_option linter.unusedSimpArgs false
section
variable {lt : E → E → Bool}
/-- Sorted block by block, s places a block. -/
def Blk (lt : E → E → Bool) (s n : Nat) (d : Array E) : Prop := ∀ i j, i < j → j < n → i / s = j / s → lt d[j]! d[i]! = false
def BlkFrom (lt : E → E → Bool) (s A n : Nat) (d : Array E) : Prop := ∀ i j, A ≤ i → i < j → j < n → i / s = j / s → lt d[j]! d[i]! = false
theorem div_is {s q i : Nat} (h1 : s * q ≤ i) (h2 : i < s * q + s) : i / s = q := by
  apply Nat.div_eq_of_lt_le
  · rw [Nat.mul_comm]; exact h1
  · rw [Nat.add_mul, Nat.one_mul, Nat.mul_comm q s]; exact h2
theorem ge_of_div {s q i : Nat} (hs : 0 < s) (h : i / s = q) : s * q ≤ i := by
  have := Nat.div_mul_le_self i s; rw [h, Nat.mul_comm] at this; exact this
theorem blk_step {d d' : Array E} {s A B : Nat} (hs : 0 < s) (h : Blk lt s A d) (hA : ∃ q, A = s * q) (h2 : B ≤ A + s) (hp : PermIn A B d d') (hd : SortedIn lt A B d') : Blk lt s B d' := by
  obtain ⟨q, rfl⟩ := hA
  intro i j hij hj hq
  by_cases hjA : j < s * q
  · rw [hp.2.1 i (.inl (by omega)), hp.2.1 j (.inl hjA)]; exact h i j hij hjA hq
  · have hjq : j / s = q := div_is (by omega) (by omega)
    have : s * q ≤ i := ge_of_div hs (by rw [hq, hjq])
    exact hd i j this hij hj
theorem from_step {d d' : Array E} {s A B n : Nat} (h : BlkFrom lt s A n d) (hAB : A ≤ B) (hp : PermIn A B d d') : BlkFrom lt s B n d' := fun i j hi hij hj hq => by
  rw [hp.2.1 i (.inr hi), hp.2.1 j (.inr (by omega))]; exact h i j (by omega) hij hj hq
theorem from_sorted {d : Array E} {s A B n p : Nat} (h : BlkFrom lt s A n d) (hAp : A ≤ p) (hB : B ≤ n) (hp : ∃ q, p = s * q) (hB2 : B ≤ p + s) : SortedIn lt p B d := by
  obtain ⟨q, rfl⟩ := hp
  exact fun i j h1 h2 h3 => h i j (by omega) h2 (by omega) (by rw [div_is h1 (by omega), div_is (q := q) (by omega) (by omega)])
theorem blk_zero (s : Nat) (d : Array E) : Blk lt s 0 d := fun i j _ h => by omega
theorem from_of {d : Array E} {s n : Nat} (h : Blk lt s n d) : BlkFrom lt s 0 n d := fun i j _ a b c => h i j a b c
theorem blk_all {d : Array E} {s n : Nat} (h : Blk lt s n d) (hn : n ≤ s) : SortedIn lt 0 n d := fun i j _ a b => h i j a b (by rw [Nat.div_eq_of_lt (by omega), Nat.div_eq_of_lt (by omega)])
end
theorem mult_add {s A : Nat} (h : ∃ q, A = s * q) : ∃ q, A + s = s * q := by obtain ⟨q, rfl⟩ := h; exact ⟨q + 1, by rw [Nat.mul_add, Nat.mul_one]⟩
theorem mult_two {s A : Nat} (h : ∃ q, A = 2 * s * q) : ∃ q, A = s * q := by obtain ⟨q, rfl⟩ := h; exact ⟨2 * q, by rw [Nat.mul_comm 2 s, Nat.mul_assoc]⟩

set_option maxHeartbeats 8000000 in
set_option maxRecDepth 100000 in
theorem stable_calls (g : Nat) (lb : Array Value) (sf : Nat) (sb : Array Value) (blk off size : Nat) (w : World) (hblk : blk < w.heap.size) (hswap : SwapSwapsK Try.prog sf sb ec 4 blk off size) (hsz : size < 1000000000)
    (eg : ∀ args w, (callFunc g args).run Try.prog w = .ok (.enter g args) w) (lt : E → E → Bool) (O : SWO lt) (S : Array E → Prop) (hS : ∀ d d' a b, S d → b ≤ d.size → PermIn a b d d' → S d') (hless : LessG Try.prog g lb lt S blk off w)
    (W : World) (d : Array E) (hst : St w W blk off d) (hd : d.size = size) (hSd : S d) (n : Nat) (hn : n = size) :
    Calls Try.prog 69 #[.agg #[.func (.func g) #[] lb, .func (.func sf) #[] sb], .int .i64 n] W fun e w' => e = .returned (.tuple #[]) ∧ ∃ d', SortedIn lt 0 n d' ∧ PermIn 0 n d d' ∧ St w w' blk off d' ∧ S d' ∧ W.grownBy w' (some blk) := by
  subst hn
  have HH := Aside0.mk hst
  have HBl := Aside0.mk hblk
  have HSd := Aside0.mk hSd
  have HSc := Aside0.mk hS
  have HSw : Aside0 (∀ d i j, S d → i < d.size → j < d.size → S (swp d i j)) := ⟨fun d i j h hi hj => HSc.out d _ 0 d.size h (Nat.le_refl _) (swp_permIn _ _ _ _ _ (Nat.zero_le _) hi (Nat.zero_le _) hj (Nat.le_refl _))⟩
  have hsz' : n < 4611686018427387904 := by omega
  clear hst hSd hS
  go_enter Try.func69, Try.ntmps69
  go_wp2
  go_loopg [5, 6] (n + 1) (fun kq v5 v6 wr => ∃ (A B : Nat) (dk : Array E), v5 = .int .i64 A ∧ v6 = .int .i64 B ∧ Aside0 (B = A + 20) ∧ A ≤ n ∧ Aside0 (n + 1 ≤ A + kq) ∧ Aside0 ((∃ q, A = 20 * q) ∧ Blk lt 20 A dk ∧ PermIn 0 n d dk ∧ S dk ∧ dk.size = n) ∧ Aside0 (St w wr blk off dk) ∧ Aside0 ((W.alloc (.cells #[.func (.func g) #[] lb, .func (.func sf) #[] sb] 78)).grownBy wr (some blk)))
  case atStart => exact ⟨0, 20, d, rfl, rfl, ⟨rfl⟩, Nat.zero_le _, ⟨by omega⟩, ⟨⟨0, rfl⟩, blk_zero _ _, permIn_refl _ _ _, HSd.out, hd⟩, ⟨HH.out.below HBl.out ((Below.refl _ _).alloc (Nat.le_refl _) _)⟩, ⟨grown_refl _ _⟩⟩
  case round =>
    obtain ⟨A, B, dk, rfl, rfl, hB, hA, HQ, HK, HS, HG⟩ := hrel
    have c0 : wr.cell? ⟨W.heap.size, 0, none⟩ = some (.func (.func g) #[] lb) := box_cell HBl.out HH.out.grown.size HG.out 0 _ rfl
    have c1 : wr.cell? ⟨W.heap.size, 1, none⟩ = some (.func (.func sf) #[] sb) := box_cell HBl.out HH.out.grown.size HG.out 1 _ rfl
    by_cases hbn : B ≤ n
    · obtain ⟨k1, rfl⟩ : ∃ k1, gk = k1 + 1 := ⟨gk - 1, by have := HQ.out; omega⟩
      have hz : dk.size = n := HK.out.2.2.2.2
      have hi := insertionSort_holds O dk A B (by have := hB.out; omega) (by omega)
      have HI := Aside0.mk hi
      have HAB : Aside0 (A ≤ B ∧ B ≤ n) := ⟨by have := hB.out; omega⟩
      have HZ := Aside0.mk hz
      clear hi hz
      go_wp2_with (go_at_call 82; have hc := insertion_calls g lb sf sb blk off n w HBl.out hswap hsz' eg lt S HSw.out hless _ dk HS.out HZ.out HK.out.2.2.2.1 A B HAB.out.1 HAB.out.2; with_reducible refine hc.mono ?_; clear hc; rintro e w1 ⟨rfl, hst1, hsd1, hg1⟩; have S1 := Aside0.mk hst1; have SD1 := Aside0.mk hsd1; have G1 := Aside0.mk (grown_trans HG.out hg1); clear hst1 hsd1 hg1)
      go_roundg k1
      case rel => exact ⟨B, B + 20, Sort.insertionSort lt dk A B, rfl, by go_num, ⟨rfl⟩, hbn, ⟨by have := HQ.out; have := hB.out; omega⟩, ⟨by rw [hB.out]; exact mult_add HK.out.1, blk_step (by omega) HK.out.2.1 HK.out.1 (by have := hB.out; omega) HI.out.1 HI.out.2, permIn_trans _ _ _ _ _ HK.out.2.2.1 (permIn_mono _ _ _ _ 0 n (Nat.zero_le _) hbn (by have := HZ.out; omega) HI.out.1), SD1.out, HI.out.1.1.trans HZ.out⟩, S1, G1⟩
      case measure => exact Nat.lt_succ_self _
    · have hz : dk.size = n := HK.out.2.2.2.2
      have hi := insertionSort_holds O dk A n (by omega) (by omega)
      have HI := Aside0.mk hi
      have HAB : Aside0 (A ≤ n ∧ n ≤ n) := ⟨by omega⟩
      have HZ := Aside0.mk hz
      clear hi hz
      go_wp2_with (go_at_call 82; have hc := insertion_calls g lb sf sb blk off n w HBl.out hswap hsz' eg lt S HSw.out hless _ dk HS.out HZ.out HK.out.2.2.2.1 A n HAB.out.1 HAB.out.2; with_reducible refine hc.mono ?_; clear hc; rintro e w1 ⟨rfl, hst1, hsd1, hg1⟩; have S1 := Aside0.mk hst1; have SD1 := Aside0.mk hsd1; have G1 := Aside0.mk (grown_trans HG.out hg1); clear hst1 hsd1 hg1)
      have hb20 : Blk lt 20 n (Sort.insertionSort lt dk A n) := blk_step (by omega) HK.out.2.1 HK.out.1 (by have := hB.out; omega) HI.out.1 HI.out.2
      have hp20 : PermIn 0 n d (Sort.insertionSort lt dk A n) := permIn_trans _ _ _ _ _ HK.out.2.2.1 (permIn_mono _ _ _ _ 0 n (Nat.zero_le _) (Nat.le_refl _) (by have := HZ.out; omega) HI.out.1)
      have hz20 : (Sort.insertionSort lt dk A n).size = n := HI.out.1.1.trans HZ.out
      generalize Sort.insertionSort lt dk A n = e0 at S1 SD1 hb20 hp20 hz20
      have HE := Aside0.mk (And.intro hb20 (And.intro hp20 (And.intro SD1.out hz20)))
      clear hb20 hp20 hz20 HI HAB
      go_loopg [4] (n + 1) (fun kq v4 wr => ∃ (s : Nat) (dk : Array E), v4 = .int .i64 s ∧ 20 ≤ s ∧ s ≤ 2 * n + 20 ∧ Aside0 (n + 1 ≤ s + kq) ∧ Aside0 (Blk lt s n dk ∧ PermIn 0 n d dk ∧ S dk ∧ dk.size = n) ∧ Aside0 (St w wr blk off dk) ∧ Aside0 ((W.alloc (.cells #[.func (.func g) #[] lb, .func (.func sf) #[] sb] 78)).grownBy wr (some blk)))
      case atStart => exact ⟨20, e0, rfl, Nat.le_refl _, by omega, ⟨by omega⟩, HE, S1, G1⟩
      case round =>
        obtain ⟨s, ds, rfl, hs20, hs2n, HQs, HKs, HSs, HGs⟩ := hrel
        have cs0 : wr.cell? ⟨W.heap.size, 0, none⟩ = some (.func (.func g) #[] lb) := box_cell HBl.out HH.out.grown.size HGs.out 0 _ rfl
        have cs1 : wr.cell? ⟨W.heap.size, 1, none⟩ = some (.func (.func sf) #[] sb) := box_cell HBl.out HH.out.grown.size HGs.out 1 _ rfl
        by_cases hsn : s < n
        · obtain ⟨k1, rfl⟩ : ∃ k1, gk = k1 + 1 := ⟨gk - 1, by have := HQs.out; omega⟩
          go_wp2
          go_loopg [5, 6] (n + 1) (fun kq v5 v6 wr => ∃ (A B : Nat) (dk2 : Array E), v5 = .int .i64 A ∧ v6 = .int .i64 B ∧ Aside0 (B = A + 2 * s) ∧ A ≤ n ∧ B ≤ 6 * n + 100 ∧ Aside0 (n + 1 ≤ A + kq) ∧ Aside0 ((∃ q, A = 2 * s * q) ∧ Blk lt (2 * s) A dk2 ∧ BlkFrom lt s A n dk2 ∧ PermIn 0 n d dk2 ∧ S dk2 ∧ dk2.size = n) ∧ Aside0 (St w wr blk off dk2) ∧ Aside0 ((W.alloc (.cells #[.func (.func g) #[] lb, .func (.func sf) #[] sb] 78)).grownBy wr (some blk)))
          case atStart => exact ⟨0, 2 * s, ds, rfl, by go_num, ⟨by omega⟩, Nat.zero_le _, by omega, ⟨by omega⟩, ⟨⟨0, rfl⟩, blk_zero _ _, from_of HKs.out.1, HKs.out.2⟩, HSs, HGs⟩
          case round =>
            obtain ⟨A, B, dk, rfl, rfl, hB, hA, hB6, HQ, HK, HS, HG⟩ := hrel
            have c0 : wr.cell? ⟨W.heap.size, 0, none⟩ = some (.func (.func g) #[] lb) := box_cell HBl.out HH.out.grown.size HG.out 0 _ rfl
            have c1 : wr.cell? ⟨W.heap.size, 1, none⟩ = some (.func (.func sf) #[] sb) := box_cell HBl.out HH.out.grown.size HG.out 1 _ rfl
            obtain ⟨M, hM⟩ : ∃ M, M = A + s := ⟨_, rfl⟩
            have EM : Aside0 ((A : Int) + (s : Int) = (M : Int)) := ⟨by omega⟩
            have HM := Aside0.mk hM
            by_cases hbn : B ≤ n
            · obtain ⟨k2, rfl⟩ : ∃ k2, gk = k2 + 1 := ⟨gk - 1, by have := HQ.out; omega⟩
              have L1 : Aside0 (SortedIn lt A M dk) := ⟨from_sorted HK.out.2.2.1 (Nat.le_refl _) (by have := hB.out; omega) (mult_two HK.out.1) (by omega)⟩
              have L2 : Aside0 (SortedIn lt M B dk) := ⟨from_sorted HK.out.2.2.1 (by omega) hbn (by rw [hM]; exact mult_add (mult_two HK.out.1)) (by have := hB.out; omega)⟩
              have AR : Aside0 (B ≤ A + n ∧ A < M ∧ M < B ∧ B ≤ n) := ⟨by have := hB.out; omega⟩
              clear hM
              go_wp2_with (go_at_call 83; (try rw [EM.out]); have hc := symMerge_calls g lb sf sb blk off n w HBl.out hswap hsz' eg lt O S HSc.out hless n _ dk A M B AR.out.1 HS.out HK.out.2.2.2.2.2 HK.out.2.2.2.2.1 L1.out L2.out AR.out.2.1 AR.out.2.2.1 AR.out.2.2.2; with_reducible refine hc.mono ?_; clear hc; rintro e w2 ⟨rfl, d2, hs2, hp2, hst2, hsd2, hg2⟩; have P2 := Aside0.mk (And.intro hs2 hp2); have S2 := Aside0.mk hst2; have SD2 := Aside0.mk hsd2; have G2 := Aside0.mk (grown_trans HG.out hg2); clear hs2 hp2 hst2 hsd2 hg2)
              go_roundg k2
              case rel => exact ⟨B, B + 2 * s, d2, rfl, by go_num, ⟨rfl⟩, hbn, by omega, ⟨by have := HQ.out; have := hB.out; omega⟩, ⟨by rw [hB.out]; exact mult_add HK.out.1, blk_step (by omega) HK.out.2.1 HK.out.1 (by have := hB.out; omega) P2.out.2 P2.out.1, from_step HK.out.2.2.1 (by have := AR.out; omega) P2.out.2, permIn_trans _ _ _ _ _ HK.out.2.2.2.1 (permIn_mono _ _ _ _ 0 n (Nat.zero_le _) hbn (by have := HK.out.2.2.2.2.2; omega) P2.out.2), SD2.out, (perm_size P2.out.2).trans HK.out.2.2.2.2.2⟩, S2, G2⟩
              case measure => exact Nat.lt_succ_self _
            · by_cases hmn : M < n
              · have L1 : Aside0 (SortedIn lt A M dk) := ⟨from_sorted HK.out.2.2.1 (Nat.le_refl _) (by omega) (mult_two HK.out.1) (by omega)⟩
                have L2 : Aside0 (SortedIn lt M n dk) := ⟨from_sorted HK.out.2.2.1 (by omega) (Nat.le_refl _) (by rw [hM]; exact mult_add (mult_two HK.out.1)) (by have := hB.out; omega)⟩
                have AR : Aside0 (n ≤ A + n ∧ A < M ∧ M < n ∧ n ≤ n) := ⟨by omega⟩
                have hmn' : (A : Int) + (s : Int) < (n : Int) := by omega
                clear hM
                go_wp2_with (go_at_call 83; (try rw [EM.out]); have hc := symMerge_calls g lb sf sb blk off n w HBl.out hswap hsz' eg lt O S HSc.out hless n _ dk A M n AR.out.1 HS.out HK.out.2.2.2.2.2 HK.out.2.2.2.2.1 L1.out L2.out AR.out.2.1 AR.out.2.2.1 AR.out.2.2.2; with_reducible refine hc.mono ?_; clear hc; rintro e w2 ⟨rfl, d2, hs2, hp2, hst2, hsd2, hg2⟩; have P2 := Aside0.mk (And.intro hs2 hp2); have S2 := Aside0.mk hst2; have SD2 := Aside0.mk hsd2; have G2 := Aside0.mk (grown_trans HG.out hg2); clear hs2 hp2 hst2 hsd2 hg2)
                go_roundg k1
                case rel => exact ⟨2 * s, d2, by go_num, by omega, by omega, ⟨by have := HQs.out; omega⟩, ⟨blk_step (by omega) HK.out.2.1 HK.out.1 (by have := hB.out; omega) P2.out.2 P2.out.1, permIn_trans _ _ _ _ _ HK.out.2.2.2.1 (permIn_mono _ _ _ _ 0 n (Nat.zero_le _) (Nat.le_refl _) (by have := HK.out.2.2.2.2.2; omega) P2.out.2), SD2.out, (perm_size P2.out.2).trans HK.out.2.2.2.2.2⟩, S2, G2⟩
                case measure => exact Nat.lt_succ_self _
              · have L1 : Aside0 (SortedIn lt A n dk) := ⟨from_sorted HK.out.2.2.1 (Nat.le_refl _) (Nat.le_refl _) (mult_two HK.out.1) (by omega)⟩
                have hmn' : ¬ (A : Int) + (s : Int) < (n : Int) := by omega
                clear hM
                go_wp2
                go_roundg k1
                case rel => exact ⟨2 * s, dk, by go_num, by omega, by omega, ⟨by have := HQs.out; omega⟩, ⟨blk_step (by omega) HK.out.2.1 HK.out.1 (by have := hB.out; omega) (permIn_refl _ _ _) L1.out, HK.out.2.2.2⟩, HS, HG⟩
                case measure => exact Nat.lt_succ_self _
        · go_wp2
          go_end0
          exact ⟨rfl, ds, blk_all HKs.out.1 (by omega), HKs.out.2.1, HSs.out, HKs.out.2.2.1, grown_trans (grown_alloc _ _ _) HGs.out⟩
end Go.Proofs.Ytfimodphnfejdaa.Srt
