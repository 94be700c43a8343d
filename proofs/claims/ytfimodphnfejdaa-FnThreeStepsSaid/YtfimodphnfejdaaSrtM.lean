/- sort.symMerge_func at a slice of records of four whole numbers: two sorted parts merged in place. -/
import Derived.Test.YtfimodphnfejdaaSrtR
import Derived.Test.YtfimodphnfejdaaSrtI
namespace Go.Proofs.Ytfimodphnfejdaa.Srt
open Go.Shelf Go.RowKit Go.Lib Go.Sort Go.Proofs.YtfimodphnfejdaaW.PrintWords Go.Proofs.YtfimodphnfejdaaW.PrintLast Go.Proofs.YtfimodphnfejdaaW.PrintMore
set_option linter.unusedVariables false
set_option linter.unusedSimpArgs false
theorem rot_parts' {lt : E → E → Bool} (O : SWO lt) {d d1 : Array E} {a m b mid s en : Nat} (h1 : SortedIn lt a m d) (h2 : SortedIn lt m b d) (P : Part lt d a m b mid s) (he : mid + m - s = en) (hR : Rot d d1 s m en) :
    SortedIn lt a s d1 ∧ SortedIn lt s mid d1 ∧ SortedIn lt mid en d1 ∧ SortedIn lt en b d1 ∧ (∀ p q, a ≤ p → p < mid → mid ≤ q → q < b → lt d1[q]! d1[p]! = false) := by
  subst he; exact rot_parts O h1 h2 P hR
theorem rot_perm {d d1 : Array E} {a m b : Nat} (h : Rot d d1 a m b) : PermIn a b d d1 := h.1
theorem perm_size {d d1 : Array E} {a b : Nat} (h : PermIn a b d d1) : d1.size = d.size := h.1
theorem perm_out {d d1 : Array E} {a b : Nat} (h : PermIn a b d d1) (t : Nat) (ht : b ≤ t) : d1[t]! = d[t]! := h.2.1 t (.inr ht)
theorem fin_merge {lt : E → E → Bool} (O : SWO lt) {d d1 d2 d3 : Array E} {a m b mid i size en : Nat} (AR : a ≤ i ∧ i ≤ m ∧ i ≤ mid ∧ mid ≤ en ∧ en ≤ b ∧ en ≤ size ∧ m ≤ en ∧ a ≤ mid ∧ mid ≤ b ∧ b ≤ d.size ∧ en + i = mid + m) (R1 : Rot d d1 i m en)
    (F1 : SortedIn lt a i d1 ∧ SortedIn lt i mid d1 ∧ SortedIn lt mid en d1 ∧ SortedIn lt en b d1 ∧ (∀ p q, a ≤ p → p < mid → mid ≤ q → q < b → lt d1[q]! d1[p]! = false))
    (h2 : (SortedIn lt a mid d2 ∧ PermIn a mid d1 d2) ∨ (d2 = d1 ∧ ¬ (a < i ∧ i < mid))) (h3 : (SortedIn lt mid b d3 ∧ PermIn mid b d2 d3) ∨ (d3 = d2 ∧ ¬ (mid < en ∧ en < b))) : SortedIn lt a b d3 ∧ PermIn a b d d3 := by
  obtain ⟨a1, a2, a3, a4, a5, _, a6, a7, a8, a9, _⟩ := AR
  have z1 : d1.size = d.size := R1.1.1
  have q1 : PermIn a b d d1 := permIn_mono _ _ _ _ a b a1 a5 a9 R1.1
  have x2 : SortedIn lt a mid d2 ∧ PermIn a mid d1 d2 := by
    rcases h2 with h2 | ⟨rfl, h2⟩
    · exact h2
    · refine ⟨?_, permIn_refl _ _ _⟩
      have : i = a ∨ i = mid := by omega
      rcases this with h | h
      · subst h; exact F1.2.1
      · rw [← h]; exact F1.1
  have x3 : SortedIn lt mid b d3 ∧ PermIn mid b d2 d3 := by
    rcases h3 with h3 | ⟨rfl, h3⟩
    · exact h3
    · refine ⟨sortedIn_congr (fun t p q => x2.2.2.1 t (.inr p)) ?_, permIn_refl _ _ _⟩
      have : en = mid ∨ en = b := by omega
      rcases this with h | h
      · have := F1.2.2.2.1; rwa [h] at this
      · have := F1.2.2.1; rwa [h] at this
  have hh := halves O (a := a) (mid := mid) (b := b) (d1 := d1) (by omega) ⟨a7, a8⟩ F1.2.2.2.2 x2.2 x2.1 x3.2 x3.1
  exact ⟨hh.1, permIn_trans _ _ _ _ _ q1 hh.2⟩
set_option maxHeartbeats 8000000 in
set_option maxRecDepth 100000 in
theorem symMerge_calls (g : Nat) (lb : Array Value) (sf : Nat) (sb : Array Value) (blk off size : Nat) (w : World) (hblk : blk < w.heap.size) (hswap : SwapSwapsK Try.prog sf sb ec 4 blk off size) (hsz : size < 4611686018427387904)
    (eg : ∀ args w, (callFunc g args).run Try.prog w = .ok (.enter g args) w) (lt : E → E → Bool) (O : SWO lt) (S : Array E → Prop) (hS : ∀ d d' a b, S d → b ≤ d.size → PermIn a b d d' → S d') (hless : LessG Try.prog g lb lt S blk off w) :
    ∀ (f : Nat) (W : World) (d : Array E) (a m b : Nat), b ≤ a + f → St w W blk off d → d.size = size → S d → SortedIn lt a m d → SortedIn lt m b d → a < m → m < b → b ≤ size →
    Calls Try.prog 83 #[.agg #[.func (.func g) #[] lb, .func (.func sf) #[] sb], .int .i64 a, .int .i64 m, .int .i64 b] W fun e w' => e = .returned (.tuple #[]) ∧ ∃ d', SortedIn lt a b d' ∧ PermIn a b d d' ∧ St w w' blk off d' ∧ S d' ∧ W.grownBy w' (some blk) := by
  intro f
  induction f with
  | zero => intro W d a m b h1 _ _ _ _ _ h2 h3 _; omega
  | succ f ih =>
  intro W d a m b hf hst hd hSd hs1 hs2 ham hmb hbs
  have HH := Aside0.mk hst
  have HBl := Aside0.mk hblk
  have HSd := Aside0.mk hSd
  have HSc := Aside0.mk hS
  have HS1 := Aside0.mk hs1
  have HS2 := Aside0.mk hs2
  have HIH := Aside0.mk ih
  obtain ⟨mid, hmid⟩ : ∃ mid, mid = (a + b) / 2 := ⟨_, rfl⟩
  have HMID := Aside0.mk hmid
  clear hst hSd hS hs1 hs2 ih hmid
  go_enter Try.func83, Try.ntmps83
  go_wp2
  · -- m - a == 1
    have hq : (((m : Int) - (a : Int)) == 1) = true := by assumption
    have hm1 : m = a + 1 := by have := eq_of_beq hq; omega
    rw [hq]
    have HM1 := Aside0.mk hm1
    clear hm1
    go_loopg [8, 9] (b - m) (fun kq vi vj wr => ∃ (i j : Nat), vi = .int .i64 i ∧ vj = .int .i64 j ∧ m ≤ i ∧ i ≤ j ∧ j ≤ b ∧ Aside0 (j ≤ i + kq) ∧ Aside0 ((∀ t, a + 1 ≤ t → t < i → lt d[t]! d[a]! = true) ∧ ∀ t, j ≤ t → t < b → lt d[t]! d[a]! = false) ∧ Aside0 (St w wr blk off d) ∧ Aside0 ((W.alloc (.cells #[.func (.func g) #[] lb, .func (.func sf) #[] sb] 78)).grownBy wr (some blk)))
    case atStart => exact ⟨m, b, rfl, rfl, Nat.le_refl _, by omega, Nat.le_refl _, ⟨by omega⟩, ⟨fun t p q => by have := HM1.out; omega, fun t p q => by omega⟩, ⟨HH.out.below HBl.out ((Below.refl _ _).alloc (Nat.le_refl _) _)⟩, ⟨grown_refl _ _⟩⟩
    case round =>
      obtain ⟨i, j, rfl, rfl, hmi, hij0, hjb, HQ, HK, HS, HG⟩ := hrel
      have c0 : wr.cell? ⟨W.heap.size, 0, none⟩ = some (.func (.func g) #[] lb) := box_cell HBl.out HH.out.grown.size HG.out 0 _ rfl
      by_cases hij : i < j
      · obtain ⟨h, hh⟩ : ∃ h, h = (i + j) / 2 := ⟨_, rfl⟩
        obtain ⟨k1, rfl⟩ : ∃ k1, gk = k1 + 1 := ⟨gk - 1, by have := HQ.out; omega⟩
        have hh1 : i ≤ h ∧ h < j := by omega
        have hl := hless wr d h a HS.out HSd.out (by omega) (by omega)
        rw [show ((h : Nat) : Int) = ((i : Int) + (j : Int)) / 2 by omega] at hl
        have HL := Aside0.mk hl
        have HHH := Aside0.mk hh
        clear hl hh
        cases hlv : lt d[h]! d[a]! with
        | true =>
          have HLV := Aside0.mk hlv
          clear hlv
          go_wp2_with (go_at_fn g; refine HL.out.mono ?_; rintro e w' ⟨rfl, hb'⟩; have HB' := Aside0.mk hb'; clear hb'; rw [HLV.out])
          have hlo : ∀ t, a + 1 ≤ t → t < h + 1 → lt d[t]! d[a]! = true := fun t p q => by
            have l := le_of_sorted O HS2.out (show m ≤ t by have := HM1.out; omega) (show t ≤ h by omega) (show h < b by omega)
            cases hx : lt d[t]! d[a]! with
            | true => rfl
            | false => have := O.ntrans _ _ _ l hx; rw [HLV.out] at this; cases this
          go_roundg k1
          case rel => exact ⟨h + 1, j, by have := HHH.out; go_num, rfl, by omega, by omega, hjb, ⟨by have := HQ.out; have := HHH.out; omega⟩, ⟨hlo, HK.out.2⟩, ⟨HS.out.below HBl.out HB'.out⟩, ⟨grown_trans HG.out (grown_below HB'.out)⟩⟩
          case measure => exact Nat.lt_succ_self _
        | false =>
          have HLV := Aside0.mk hlv
          clear hlv
          go_wp2_with (go_at_fn g; refine HL.out.mono ?_; rintro e w' ⟨rfl, hb'⟩; have HB' := Aside0.mk hb'; clear hb'; rw [HLV.out])
          go_roundg k1
          case rel => exact ⟨i, h, rfl, by have := HHH.out; go_num, hmi, by omega, by omega, ⟨by have := HQ.out; have := HHH.out; omega⟩, ⟨HK.out.1, fun t p q => by
            have l := le_of_sorted O HS2.out (show m ≤ h by omega) (show h ≤ t by omega) q
            exact O.ntrans _ _ _ l HLV.out⟩, ⟨HS.out.below HBl.out HB'.out⟩, ⟨grown_trans HG.out (grown_below HB'.out)⟩⟩
          case measure => exact Nat.lt_succ_self _
      · obtain rfl : i = j := by omega
        go_wp2
        go_loopg [11] (i - a) (fun kq vk wr2 => ∃ k : Nat, vk = .int .i64 k ∧ a ≤ k ∧ k ≤ i - 1 ∧ Aside0 (i ≤ k + kq) ∧ Aside0 (St w wr2 blk off (up d a (k - a))) ∧ Aside0 ((W.alloc (.cells #[.func (.func g) #[] lb, .func (.func sf) #[] sb] 78)).grownBy wr2 (some blk)))
        case atStart => exact ⟨a, rfl, Nat.le_refl _, by omega, ⟨by omega⟩, ⟨by rw [Nat.sub_self]; exact HS.out⟩, HG⟩
        case round =>
          obtain ⟨k, rfl, hak, hki, HQ2, HS3, HG3⟩ := hrel
          have c1 : wr.cell? ⟨W.heap.size, 1, none⟩ = some (.func (.func sf) #[] sb) := box_cell HBl.out HH.out.grown.size HG3.out 1 _ rfl
          by_cases hkk : k < i - 1
          · obtain ⟨k2, rfl⟩ : ∃ k2, gk = k2 + 1 := ⟨gk - 1, by have := HQ2.out; omega⟩
            have hs := hswap wr _ HS3.out.holds (by rw [size_up]; exact hd) k (k + 1) (by omega) (by omega)
            rw [show (((k + 1 : Nat) : Int)) = (k : Int) + 1 by omega] at hs
            have HN := Aside0.mk (HS3.out.swap (i := k) (j := k + 1) (by rw [size_up]; omega) (by rw [size_up]; omega))
            have HN2 := Aside0.mk ((St.swap (St.self HS3.out.holds) (i := k) (j := k + 1) (by rw [size_up]; omega) (by rw [size_up]; omega)).grown)
            have hlt : (k : Int) < (i : Int) - 1 := by omega
            go_wp2
            go_roundg k2
            case rel => exact ⟨k + 1, by go_num, by omega, by omega, ⟨by have := HQ2.out; omega⟩, ⟨by
              have e : k + 1 - a = (k - a) + 1 := by omega
              rw [e, up, show a + (k - a) = k by omega]; exact HN.out⟩, ⟨grown_trans HG3.out HN2.out⟩⟩
            case measure => exact Nat.lt_succ_self _
          · have hge : ¬ (k : Int) < (i : Int) - 1 := by omega
            go_wp2
            refine bodyPost_ret (results_none rfl _ _ _) rfl ?_
            have hm1 := HM1.out
            obtain rfl : k = i - 1 := by omega
            have hmo := merge_one_left O (lt := lt) (d := d) (a := a) (b := b) (i := i) (by rw [← hm1]; exact HS2.out) (by omega) (by omega) HK.out.1 HK.out.2
            exact ⟨rfl, _, hmo.1, hmo.2, HS3.out, HSc.out _ _ _ _ HSd.out (by omega) hmo.2, grown_trans (grown_alloc _ _ _) HG3.out⟩
  · -- b - m == 1
    have hq0 : (((m : Int) - (a : Int)) == 1) = false := by assumption
    have hq : (((b : Int) - (m : Int)) == 1) = true := by assumption
    have hb1 : b = m + 1 := by have := eq_of_beq hq; omega
    rw [hq0, hq]
    have HB1 := Aside0.mk hb1
    clear hb1
    go_loopg [12, 13] (m - a) (fun kq vi vj wr => ∃ (i j : Nat), vi = .int .i64 i ∧ vj = .int .i64 j ∧ a ≤ i ∧ i ≤ j ∧ j ≤ m ∧ Aside0 (j ≤ i + kq) ∧ Aside0 ((∀ t, a ≤ t → t < i → lt d[m]! d[t]! = false) ∧ ∀ t, j ≤ t → t < m → lt d[m]! d[t]! = true) ∧ Aside0 (St w wr blk off d) ∧ Aside0 ((W.alloc (.cells #[.func (.func g) #[] lb, .func (.func sf) #[] sb] 78)).grownBy wr (some blk)))
    case atStart => exact ⟨a, m, rfl, rfl, Nat.le_refl _, by omega, Nat.le_refl _, ⟨by omega⟩, ⟨fun t p q => by omega, fun t p q => by omega⟩, ⟨HH.out.below HBl.out ((Below.refl _ _).alloc (Nat.le_refl _) _)⟩, ⟨grown_refl _ _⟩⟩
    case round =>
      obtain ⟨i, j, rfl, rfl, hai, hij0, hjm, HQ, HK, HS, HG⟩ := hrel
      have c0 : wr.cell? ⟨W.heap.size, 0, none⟩ = some (.func (.func g) #[] lb) := box_cell HBl.out HH.out.grown.size HG.out 0 _ rfl
      by_cases hij : i < j
      · obtain ⟨h, hh⟩ : ∃ h, h = (i + j) / 2 := ⟨_, rfl⟩
        obtain ⟨k1, rfl⟩ : ∃ k1, gk = k1 + 1 := ⟨gk - 1, by have := HQ.out; omega⟩
        have hh1 : i ≤ h ∧ h < j := by omega
        have hl := hless wr d m h HS.out HSd.out (by omega) (by omega)
        rw [show ((h : Nat) : Int) = ((i : Int) + (j : Int)) / 2 by omega] at hl
        have HL := Aside0.mk hl
        have HHH := Aside0.mk hh
        clear hl hh
        cases hlv : lt d[m]! d[h]! with
        | true =>
          have HLV := Aside0.mk hlv
          clear hlv
          go_wp2_with (go_at_fn g; refine HL.out.mono ?_; rintro e w' ⟨rfl, hb'⟩; have HB' := Aside0.mk hb'; clear hb'; rw [HLV.out])
          have hhi : ∀ t, h ≤ t → t < m → lt d[m]! d[t]! = true := fun t p q => by
            have l := le_of_sorted O HS1.out (show a ≤ h by omega) (show h ≤ t by omega) q
            cases hx : lt d[m]! d[t]! with
            | true => rfl
            | false => have := O.ntrans _ _ _ hx l; rw [HLV.out] at this; cases this
          go_roundg k1
          case rel => exact ⟨i, h, rfl, by have := HHH.out; go_num, hai, by omega, by omega, ⟨by have := HQ.out; have := HHH.out; omega⟩, ⟨HK.out.1, hhi⟩, ⟨HS.out.below HBl.out HB'.out⟩, ⟨grown_trans HG.out (grown_below HB'.out)⟩⟩
          case measure => exact Nat.lt_succ_self _
        | false =>
          have HLV := Aside0.mk hlv
          clear hlv
          go_wp2_with (go_at_fn g; refine HL.out.mono ?_; rintro e w' ⟨rfl, hb'⟩; have HB' := Aside0.mk hb'; clear hb'; rw [HLV.out])
          have hlo : ∀ t, a ≤ t → t < h + 1 → lt d[m]! d[t]! = false := fun t p q => by
            have l := le_of_sorted O HS1.out p (show t ≤ h by omega) (show h < m by omega)
            exact O.ntrans _ _ _ HLV.out l
          go_roundg k1
          case rel => exact ⟨h + 1, j, by have := HHH.out; go_num, rfl, by omega, by omega, hjm, ⟨by have := HQ.out; have := HHH.out; omega⟩, ⟨hlo, HK.out.2⟩, ⟨HS.out.below HBl.out HB'.out⟩, ⟨grown_trans HG.out (grown_below HB'.out)⟩⟩
          case measure => exact Nat.lt_succ_self _
      · obtain rfl : i = j := by omega
        go_wp2
        go_loopg [15] (m - i) (fun kq vk wr2 => ∃ k : Nat, vk = .int .i64 k ∧ i ≤ k ∧ k ≤ m ∧ Aside0 (k ≤ i + kq) ∧ Aside0 (St w wr2 blk off (dn d m (m - k))) ∧ Aside0 ((W.alloc (.cells #[.func (.func g) #[] lb, .func (.func sf) #[] sb] 78)).grownBy wr2 (some blk)))
        case atStart => exact ⟨m, rfl, hjm, Nat.le_refl _, ⟨by omega⟩, ⟨by rw [Nat.sub_self]; exact HS.out⟩, HG⟩
        case round =>
          obtain ⟨k, rfl, hik, hkm, HQ2, HS3, HG3⟩ := hrel
          have c1 : wr.cell? ⟨W.heap.size, 1, none⟩ = some (.func (.func sf) #[] sb) := box_cell HBl.out HH.out.grown.size HG3.out 1 _ rfl
          by_cases hkk : i < k
          · obtain ⟨k2, rfl⟩ : ∃ k2, gk = k2 + 1 := ⟨gk - 1, by have := HQ2.out; omega⟩
            have hs := hswap wr _ HS3.out.holds (by rw [size_dn]; exact hd) k (k - 1) (by omega) (by omega)
            rw [show (((k - 1 : Nat) : Int)) = (k : Int) - 1 by omega] at hs
            have HN := Aside0.mk (HS3.out.swap (i := k) (j := k - 1) (by rw [size_dn]; omega) (by rw [size_dn]; omega))
            have HN2 := Aside0.mk ((St.swap (St.self HS3.out.holds) (i := k) (j := k - 1) (by rw [size_dn]; omega) (by rw [size_dn]; omega)).grown)
            go_wp2
            go_roundg k2
            case rel => exact ⟨k - 1, by go_num, by omega, by omega, ⟨by have := HQ2.out; omega⟩, ⟨by
              have e : m - (k - 1) = (m - k) + 1 := by omega
              rw [e, dn, show m - (m - k) = k by omega]; exact HN.out⟩, ⟨grown_trans HG3.out HN2.out⟩⟩
            case measure => exact Nat.lt_succ_self _
          · go_wp2
            refine bodyPost_ret (results_none rfl _ _ _) rfl ?_
            have hb1 := HB1.out
            obtain rfl : k = i := by omega
            have hmo := merge_one_right O (lt := lt) (d := d) (a := a) (m := m) (i := k) HS1.out (by omega) (by omega) HK.out.1 HK.out.2
            subst hb1
            exact ⟨rfl, _, hmo.1, hmo.2, HS3.out, HSc.out _ _ _ _ HSd.out (by omega) hmo.2, grown_trans (grown_alloc _ _ _) HG3.out⟩
  · -- mid < m
    have hmm : ((a : Int) + (b : Int)) / 2 < (m : Int) := by assumption
    obtain ⟨s0, hs0⟩ : ∃ s0, s0 = mid + m - b := ⟨_, rfl⟩
    obtain ⟨r0, hr0⟩ : ∃ r0, r0 = mid := ⟨_, rfl⟩
    have h0 : (m > mid ∧ s0 = mid + m - b ∧ r0 = mid) ∨ (m ≤ mid ∧ s0 = a ∧ r0 = m) := .inl ⟨by have := HMID.out; omega, hs0, hr0⟩
    have H0 := Aside0.mk h0
    have HR0 : Aside0 (a ≤ s0 ∧ s0 ≤ r0 ∧ r0 ≤ m ∧ s0 + b ≥ mid + m ∧ r0 ≤ mid) := ⟨by have := HMID.out; omega⟩
    have hq0 : (((m : Int) - (a : Int)) == 1) = false := by assumption
    have hq1 : (((b : Int) - (m : Int)) == 1) = false := by assumption
    have hne : m - a ≠ 1 ∧ b - m ≠ 1 := by
      constructor
      · intro h; rw [show (m : Int) - (a : Int) = 1 by omega] at hq0; cases hq0
      · intro h; rw [show (b : Int) - (m : Int) = 1 by omega] at hq1; cases hq1
    have AF : Aside0 (mid ≤ a + f ∧ b ≤ mid + f ∧ mid ≤ size) := ⟨by have := HMID.out; omega⟩
    have e18 : ((a : Int) + (b : Int)) / 2 + (m : Int) - (b : Int) = (s0 : Int) := by have := HMID.out; omega
    have e19 : ((a : Int) + (b : Int)) / 2 = (r0 : Int) := by have := HMID.out; omega
    rw [hq0, hq1]
    (try rw [decide_eq_true hmm])
    have E18 := Aside0.mk e18
    have E19 := Aside0.mk e19
    clear h0 hs0 hr0 hne e18 e19
    go_loopg [18, 19] b (fun kq vi vj wr => ∃ (i j : Nat), vi = .int .i64 i ∧ vj = .int .i64 j ∧ s0 ≤ i ∧ i ≤ j ∧ j ≤ r0 ∧ Aside0 (j ≤ i + kq) ∧ Aside0 ((∀ c, s0 ≤ c → c < i → lt d[mid + m - 1 - c]! d[c]! = false) ∧ ∀ c, j ≤ c → c < r0 → lt d[mid + m - 1 - c]! d[c]! = true) ∧ Aside0 (St w wr blk off d) ∧ Aside0 ((W.alloc (.cells #[.func (.func g) #[] lb, .func (.func sf) #[] sb] 78)).grownBy wr (some blk)))
    case atStart => exact ⟨s0, r0, congrArg (Value.int .i64) E18.out, congrArg (Value.int .i64) E19.out, Nat.le_refl _, by have := HR0.out; omega, Nat.le_refl _, ⟨by have := HR0.out; omega⟩, ⟨fun c p q => by omega, fun c p q => by omega⟩, ⟨HH.out.below HBl.out ((Below.refl _ _).alloc (Nat.le_refl _) _)⟩, ⟨grown_refl _ _⟩⟩
    case round =>
      obtain ⟨i, j, rfl, rfl, hsi, hij0, hjr, HQ, HK, HS, HG⟩ := hrel
      have c0 : wr.cell? ⟨W.heap.size, 0, none⟩ = some (.func (.func g) #[] lb) := box_cell HBl.out HH.out.grown.size HG.out 0 _ rfl
      have c1 : wr.cell? ⟨W.heap.size, 1, none⟩ = some (.func (.func sf) #[] sb) := box_cell HBl.out HH.out.grown.size HG.out 1 _ rfl
      by_cases hij : i < j
      · obtain ⟨h, hh⟩ : ∃ h, h = (i + j) / 2 := ⟨_, rfl⟩
        obtain ⟨k1, rfl⟩ : ∃ k1, gk = k1 + 1 := ⟨gk - 1, by have := HQ.out; omega⟩
        have hh1 : i ≤ h ∧ h < j := by omega
        obtain ⟨x01, x02, x03, x04, x05⟩ := HR0.out
        have hl := hless wr d (mid + m - 1 - h) h HS.out HSd.out (by have := HR0.out; omega) (by have := HR0.out; omega)
        rw [show ((mid + m - 1 - h : Nat) : Int) = ((a : Int) + (b : Int)) / 2 + (m : Int) - 1 - ((i : Int) + (j : Int)) / 2 by have := HR0.out; have := HMID.out; omega, show ((h : Nat) : Int) = ((i : Int) + (j : Int)) / 2 by omega] at hl
        have HL := Aside0.mk hl
        have HHH := Aside0.mk hh
        clear hl hh
        cases hlv : lt d[mid + m - 1 - h]! d[h]! with
        | true =>
          have HLV := Aside0.mk hlv
          clear hlv
          go_wp2_with (go_at_fn g; refine HL.out.mono ?_; rintro e w' ⟨rfl, hb'⟩; have HB' := Aside0.mk hb'; clear hb'; rw [HLV.out])
          have hhi : ∀ c, h ≤ c → c < r0 → lt d[mid + m - 1 - c]! d[c]! = true := fun c p q => by
            have x0 := HR0.out
            have l1 := le_of_sorted O HS1.out (show a ≤ h by omega) (show h ≤ c by omega) (show c < m by omega)
            have l2 := le_of_sorted O HS2.out (show m ≤ mid + m - 1 - c by omega) (show mid + m - 1 - c ≤ mid + m - 1 - h by omega) (show mid + m - 1 - h < b by omega)
            cases hx : lt d[mid + m - 1 - c]! d[c]! with
            | true => rfl
            | false => have := O.ntrans _ _ _ (O.ntrans _ _ _ l2 hx) l1; rw [HLV.out] at this; cases this
          go_roundg k1
          case rel => exact ⟨i, h, rfl, by have := HHH.out; go_num, hsi, by omega, by omega, ⟨by have := HQ.out; have := HHH.out; omega⟩, ⟨HK.out.1, hhi⟩, ⟨HS.out.below HBl.out HB'.out⟩, ⟨grown_trans HG.out (grown_below HB'.out)⟩⟩
          case measure => exact Nat.lt_succ_self _
        | false =>
          have HLV := Aside0.mk hlv
          clear hlv
          go_wp2_with (go_at_fn g; refine HL.out.mono ?_; rintro e w' ⟨rfl, hb'⟩; have HB' := Aside0.mk hb'; clear hb'; rw [HLV.out])
          have hlo : ∀ c, s0 ≤ c → c < h + 1 → lt d[mid + m - 1 - c]! d[c]! = false := fun c p q => by
            have x0 := HR0.out
            have l1 := le_of_sorted O HS1.out (show a ≤ c by omega) (show c ≤ h by omega) (show h < m by omega)
            have l2 := le_of_sorted O HS2.out (show m ≤ mid + m - 1 - h by omega) (show mid + m - 1 - h ≤ mid + m - 1 - c by omega) (show mid + m - 1 - c < b by omega)
            exact O.ntrans _ _ _ (O.ntrans _ _ _ l2 HLV.out) l1
          go_roundg k1
          case rel => exact ⟨h + 1, j, by have := HHH.out; go_num, rfl, by omega, by omega, hjr, ⟨by have := HQ.out; have := HHH.out; omega⟩, ⟨hlo, HK.out.2⟩, ⟨HS.out.below HBl.out HB'.out⟩, ⟨grown_trans HG.out (grown_below HB'.out)⟩⟩
          case measure => exact Nat.lt_succ_self _
      · obtain rfl : i = j := by omega
        have hP : Part lt d a m b mid i := part_of O HS1.out HS2.out ham hmb HMID.out H0.out ⟨hsi, hjr⟩ HK.out.1 HK.out.2
        have HP := Aside0.mk hP
        obtain ⟨en, hen, hene⟩ : ∃ en, en + i = mid + m ∧ mid + m - i = en := ⟨mid + m - i, by obtain ⟨x1, x2, x3, x4, x5, _, _⟩ := hP; omega, rfl⟩
        have HEN := Aside0.mk hene
        have AR : Aside0 (a ≤ i ∧ i ≤ m ∧ i ≤ mid ∧ mid ≤ en ∧ en ≤ b ∧ en ≤ size ∧ m ≤ en ∧ a ≤ mid ∧ mid ≤ b ∧ b ≤ d.size ∧ en + i = mid + m) := ⟨by obtain ⟨x1, x2, x3, x4, x5, _, _⟩ := hP; have := HMID.out; omega⟩
        have AREN : Aside0 (en ≤ d.size) := ⟨by have := AR.out; omega⟩
        have E1 : Aside0 ((mid : Int) + (m : Int) - (i : Int) = (en : Int)) := ⟨by omega⟩
        clear hene hen
        have E2 : Aside0 (((a : Int) + (b : Int)) / 2 = (mid : Int)) := ⟨by have := HMID.out; omega⟩
        obtain ⟨ar1, ar2, ar3, ar4, ar5, ar6, ar7, ar8, ar9, ar10, ar11⟩ := AR.out
        have W3 := E2.out
        clear hP hsi hjr hij0 hij
        by_cases hr : i < m ∧ m < en
        · by_cases hl : a < i ∧ i < mid
          · by_cases hq : mid < en ∧ en < b
            · have HR := Aside0.mk hr
              have HLf := Aside0.mk hl
              have HRt := Aside0.mk hq
              go_wp2_with (first | (go_at_call 84; (try simp only [E2.out]); (try rw [E1.out]); have hc := rotate_calls g lb sf sb blk off size w HBl.out hswap hsz _ d HS.out hd i m en HR.out.1 HR.out.2 ar6; with_reducible refine hc.mono ?_; clear hc; rintro e w1 ⟨rfl, d1, hR1, hst1, hg1⟩; have R1 := Aside0.mk hR1; have S1 := Aside0.mk hst1; have G1 := Aside0.mk (grown_trans HG.out hg1); have F1 := Aside0.mk (rot_parts' O HS1.out HS2.out HP.out HEN.out hR1); have SD1 := Aside0.mk (HSc.out d d1 i en HSd.out AREN.out (rot_perm hR1)); clear hR1 hst1 hg1; have cc0w1 : w1.cell? ⟨W.heap.size, 0, none⟩ = some (.func (.func g) #[] lb) := box_cell HBl.out HH.out.grown.size G1.out 0 _ rfl; have cc1w1 : w1.cell? ⟨W.heap.size, 1, none⟩ = some (.func (.func sf) #[] sb) := box_cell HBl.out HH.out.grown.size G1.out 1 _ rfl) | (go_at_call 83; (try simp only [E2.out]); have hc := HIH.out _ d1 a i mid AF.out.1 S1.out ((perm_size (rot_perm R1.out)).trans hd) SD1.out F1.out.1 F1.out.2.1 HLf.out.1 HLf.out.2 AF.out.2.2; with_reducible refine hc.mono ?_; clear hc; rintro e w2 ⟨rfl, d2, hs2, hp2, hst2, hsd2, hg2⟩; have P2 := Aside0.mk (And.intro hs2 hp2); have S2 := Aside0.mk hst2; have SD2 := Aside0.mk hsd2; have G2 := Aside0.mk (grown_trans G1.out hg2); clear hs2 hp2 hst2 hsd2 hg2; have cc0w2 : w2.cell? ⟨W.heap.size, 0, none⟩ = some (.func (.func g) #[] lb) := box_cell HBl.out HH.out.grown.size G2.out 0 _ rfl; have cc1w2 : w2.cell? ⟨W.heap.size, 1, none⟩ = some (.func (.func sf) #[] sb) := box_cell HBl.out HH.out.grown.size G2.out 1 _ rfl) | (go_at_call 83; (try simp only [E2.out]); (try rw [E1.out]); have hc := HIH.out _ d2 mid en b AF.out.2.1 S2.out ((perm_size P2.out.2).trans ((perm_size (rot_perm R1.out)).trans hd)) SD2.out (sortedIn_congr (fun t x y => perm_out P2.out.2 t x) F1.out.2.2.1) (sortedIn_congr (fun t x y => perm_out P2.out.2 t (Nat.le_trans ar4 x)) F1.out.2.2.2.1) HRt.out.1 HRt.out.2 hbs; with_reducible refine hc.mono ?_; clear hc; rintro e w3 ⟨rfl, d3, hs3, hp3, hst3, hsd3, hg3⟩; have P3 := Aside0.mk (And.intro hs3 hp3); have S3 := Aside0.mk hst3; have SD3 := Aside0.mk hsd3; have G3 := Aside0.mk (grown_trans G2.out hg3); clear hs3 hp3 hst3 hsd3 hg3))
              all_goals (first | go_end0 | trace_state)
              all_goals (exact ⟨rfl, d3, (fin_merge O (d1 := d1) (d2 := d2) (d3 := d3) AR.out R1.out F1.out (.inl P2.out) (.inl P3.out)).1, (fin_merge O (d1 := d1) (d2 := d2) (d3 := d3) AR.out R1.out F1.out (.inl P2.out) (.inl P3.out)).2, S3.out, SD3.out, grown_trans (grown_alloc _ _ _) G3.out⟩)
            · have HR := Aside0.mk hr
              have HLf := Aside0.mk hl
              have HRt := Aside0.mk hq
              go_wp2_with (first | (go_at_call 84; (try simp only [E2.out]); (try rw [E1.out]); have hc := rotate_calls g lb sf sb blk off size w HBl.out hswap hsz _ d HS.out hd i m en HR.out.1 HR.out.2 ar6; with_reducible refine hc.mono ?_; clear hc; rintro e w1 ⟨rfl, d1, hR1, hst1, hg1⟩; have R1 := Aside0.mk hR1; have S1 := Aside0.mk hst1; have G1 := Aside0.mk (grown_trans HG.out hg1); have F1 := Aside0.mk (rot_parts' O HS1.out HS2.out HP.out HEN.out hR1); have SD1 := Aside0.mk (HSc.out d d1 i en HSd.out AREN.out (rot_perm hR1)); clear hR1 hst1 hg1; have cc0w1 : w1.cell? ⟨W.heap.size, 0, none⟩ = some (.func (.func g) #[] lb) := box_cell HBl.out HH.out.grown.size G1.out 0 _ rfl; have cc1w1 : w1.cell? ⟨W.heap.size, 1, none⟩ = some (.func (.func sf) #[] sb) := box_cell HBl.out HH.out.grown.size G1.out 1 _ rfl) | (go_at_call 83; (try simp only [E2.out]); have hc := HIH.out _ d1 a i mid AF.out.1 S1.out ((perm_size (rot_perm R1.out)).trans hd) SD1.out F1.out.1 F1.out.2.1 HLf.out.1 HLf.out.2 AF.out.2.2; with_reducible refine hc.mono ?_; clear hc; rintro e w2 ⟨rfl, d2, hs2, hp2, hst2, hsd2, hg2⟩; have P2 := Aside0.mk (And.intro hs2 hp2); have S2 := Aside0.mk hst2; have SD2 := Aside0.mk hsd2; have G2 := Aside0.mk (grown_trans G1.out hg2); clear hs2 hp2 hst2 hsd2 hg2; have cc0w2 : w2.cell? ⟨W.heap.size, 0, none⟩ = some (.func (.func g) #[] lb) := box_cell HBl.out HH.out.grown.size G2.out 0 _ rfl; have cc1w2 : w2.cell? ⟨W.heap.size, 1, none⟩ = some (.func (.func sf) #[] sb) := box_cell HBl.out HH.out.grown.size G2.out 1 _ rfl))
              all_goals (first | go_end0 | trace_state)
              all_goals (exact ⟨rfl, d2, (fin_merge O (d1 := d1) (d2 := d2) (d3 := d2) AR.out R1.out F1.out (.inl P2.out) (.inr ⟨rfl, HRt.out⟩)).1, (fin_merge O (d1 := d1) (d2 := d2) (d3 := d2) AR.out R1.out F1.out (.inl P2.out) (.inr ⟨rfl, HRt.out⟩)).2, S2.out, SD2.out, grown_trans (grown_alloc _ _ _) G2.out⟩)
          · by_cases hq : mid < en ∧ en < b
            · have HR := Aside0.mk hr
              have HLf := Aside0.mk hl
              have HRt := Aside0.mk hq
              go_wp2_with (first | (go_at_call 84; (try simp only [E2.out]); (try rw [E1.out]); have hc := rotate_calls g lb sf sb blk off size w HBl.out hswap hsz _ d HS.out hd i m en HR.out.1 HR.out.2 ar6; with_reducible refine hc.mono ?_; clear hc; rintro e w1 ⟨rfl, d1, hR1, hst1, hg1⟩; have R1 := Aside0.mk hR1; have S1 := Aside0.mk hst1; have G1 := Aside0.mk (grown_trans HG.out hg1); have F1 := Aside0.mk (rot_parts' O HS1.out HS2.out HP.out HEN.out hR1); have SD1 := Aside0.mk (HSc.out d d1 i en HSd.out AREN.out (rot_perm hR1)); clear hR1 hst1 hg1; have cc0w1 : w1.cell? ⟨W.heap.size, 0, none⟩ = some (.func (.func g) #[] lb) := box_cell HBl.out HH.out.grown.size G1.out 0 _ rfl; have cc1w1 : w1.cell? ⟨W.heap.size, 1, none⟩ = some (.func (.func sf) #[] sb) := box_cell HBl.out HH.out.grown.size G1.out 1 _ rfl) | (go_at_call 83; (try simp only [E2.out]); (try rw [E1.out]); have hc := HIH.out _ d1 mid en b AF.out.2.1 S1.out ((perm_size (rot_perm R1.out)).trans hd) SD1.out F1.out.2.2.1 F1.out.2.2.2.1 HRt.out.1 HRt.out.2 hbs; with_reducible refine hc.mono ?_; clear hc; rintro e w3 ⟨rfl, d3, hs3, hp3, hst3, hsd3, hg3⟩; have P3 := Aside0.mk (And.intro hs3 hp3); have S3 := Aside0.mk hst3; have SD3 := Aside0.mk hsd3; have G3 := Aside0.mk (grown_trans G1.out hg3); clear hs3 hp3 hst3 hsd3 hg3))
              all_goals (first | go_end0 | trace_state)
              all_goals (exact ⟨rfl, d3, (fin_merge O (d1 := d1) (d2 := d1) (d3 := d3) AR.out R1.out F1.out (.inr ⟨rfl, HLf.out⟩) (.inl P3.out)).1, (fin_merge O (d1 := d1) (d2 := d1) (d3 := d3) AR.out R1.out F1.out (.inr ⟨rfl, HLf.out⟩) (.inl P3.out)).2, S3.out, SD3.out, grown_trans (grown_alloc _ _ _) G3.out⟩)
            · have HR := Aside0.mk hr
              have HLf := Aside0.mk hl
              have HRt := Aside0.mk hq
              go_wp2_with (first | (go_at_call 84; (try simp only [E2.out]); (try rw [E1.out]); have hc := rotate_calls g lb sf sb blk off size w HBl.out hswap hsz _ d HS.out hd i m en HR.out.1 HR.out.2 ar6; with_reducible refine hc.mono ?_; clear hc; rintro e w1 ⟨rfl, d1, hR1, hst1, hg1⟩; have R1 := Aside0.mk hR1; have S1 := Aside0.mk hst1; have G1 := Aside0.mk (grown_trans HG.out hg1); have F1 := Aside0.mk (rot_parts' O HS1.out HS2.out HP.out HEN.out hR1); have SD1 := Aside0.mk (HSc.out d d1 i en HSd.out AREN.out (rot_perm hR1)); clear hR1 hst1 hg1; have cc0w1 : w1.cell? ⟨W.heap.size, 0, none⟩ = some (.func (.func g) #[] lb) := box_cell HBl.out HH.out.grown.size G1.out 0 _ rfl; have cc1w1 : w1.cell? ⟨W.heap.size, 1, none⟩ = some (.func (.func sf) #[] sb) := box_cell HBl.out HH.out.grown.size G1.out 1 _ rfl))
              all_goals (first | go_end0 | trace_state)
              all_goals (exact ⟨rfl, d1, (fin_merge O (d1 := d1) (d2 := d1) (d3 := d1) AR.out R1.out F1.out (.inr ⟨rfl, HLf.out⟩) (.inr ⟨rfl, HRt.out⟩)).1, (fin_merge O (d1 := d1) (d2 := d1) (d3 := d1) AR.out R1.out F1.out (.inr ⟨rfl, HLf.out⟩) (.inr ⟨rfl, HRt.out⟩)).2, S1.out, SD1.out, grown_trans (grown_alloc _ _ _) G1.out⟩)
        · by_cases hl : a < i ∧ i < mid
          · by_cases hq : mid < en ∧ en < b
            · have HR := Aside0.mk hr
              have HLf := Aside0.mk hl
              have HRt := Aside0.mk hq
              have hR0 : Rot d d i m en := by
                have hx : i = m ∨ i = mid := by have := AR.out; omega
                rcases hx with hx | hx
                · rw [hx]; exact rot_right d m _ (by have := AR.out; omega)
                · rw [hx, show en = m by have := AR.out; omega]; exact rot_left d mid m (by have := AR.out; omega)
              have R1 := Aside0.mk hR0
              have F1 := Aside0.mk (rot_parts' O HS1.out HS2.out HP.out HEN.out hR0)
              clear hR0
              go_wp2_with (first | (go_at_call 83; (try simp only [E2.out]); have hc := HIH.out _ d a i mid AF.out.1 HS.out ((perm_size (rot_perm R1.out)).trans hd) HSd.out F1.out.1 F1.out.2.1 HLf.out.1 HLf.out.2 AF.out.2.2; with_reducible refine hc.mono ?_; clear hc; rintro e w2 ⟨rfl, d2, hs2, hp2, hst2, hsd2, hg2⟩; have P2 := Aside0.mk (And.intro hs2 hp2); have S2 := Aside0.mk hst2; have SD2 := Aside0.mk hsd2; have G2 := Aside0.mk (grown_trans HG.out hg2); clear hs2 hp2 hst2 hsd2 hg2; have cc0w2 : w2.cell? ⟨W.heap.size, 0, none⟩ = some (.func (.func g) #[] lb) := box_cell HBl.out HH.out.grown.size G2.out 0 _ rfl; have cc1w2 : w2.cell? ⟨W.heap.size, 1, none⟩ = some (.func (.func sf) #[] sb) := box_cell HBl.out HH.out.grown.size G2.out 1 _ rfl) | (go_at_call 83; (try simp only [E2.out]); (try rw [E1.out]); have hc := HIH.out _ d2 mid en b AF.out.2.1 S2.out ((perm_size P2.out.2).trans ((perm_size (rot_perm R1.out)).trans hd)) SD2.out (sortedIn_congr (fun t x y => perm_out P2.out.2 t x) F1.out.2.2.1) (sortedIn_congr (fun t x y => perm_out P2.out.2 t (Nat.le_trans ar4 x)) F1.out.2.2.2.1) HRt.out.1 HRt.out.2 hbs; with_reducible refine hc.mono ?_; clear hc; rintro e w3 ⟨rfl, d3, hs3, hp3, hst3, hsd3, hg3⟩; have P3 := Aside0.mk (And.intro hs3 hp3); have S3 := Aside0.mk hst3; have SD3 := Aside0.mk hsd3; have G3 := Aside0.mk (grown_trans G2.out hg3); clear hs3 hp3 hst3 hsd3 hg3))
              all_goals (first | go_end0 | trace_state)
              all_goals (exact ⟨rfl, d3, (fin_merge O (d1 := d) (d2 := d2) (d3 := d3) AR.out R1.out F1.out (.inl P2.out) (.inl P3.out)).1, (fin_merge O (d1 := d) (d2 := d2) (d3 := d3) AR.out R1.out F1.out (.inl P2.out) (.inl P3.out)).2, S3.out, SD3.out, grown_trans (grown_alloc _ _ _) G3.out⟩)
            · have HR := Aside0.mk hr
              have HLf := Aside0.mk hl
              have HRt := Aside0.mk hq
              have hR0 : Rot d d i m en := by
                have hx : i = m ∨ i = mid := by have := AR.out; omega
                rcases hx with hx | hx
                · rw [hx]; exact rot_right d m _ (by have := AR.out; omega)
                · rw [hx, show en = m by have := AR.out; omega]; exact rot_left d mid m (by have := AR.out; omega)
              have R1 := Aside0.mk hR0
              have F1 := Aside0.mk (rot_parts' O HS1.out HS2.out HP.out HEN.out hR0)
              clear hR0
              go_wp2_with (first | (go_at_call 83; (try simp only [E2.out]); have hc := HIH.out _ d a i mid AF.out.1 HS.out ((perm_size (rot_perm R1.out)).trans hd) HSd.out F1.out.1 F1.out.2.1 HLf.out.1 HLf.out.2 AF.out.2.2; with_reducible refine hc.mono ?_; clear hc; rintro e w2 ⟨rfl, d2, hs2, hp2, hst2, hsd2, hg2⟩; have P2 := Aside0.mk (And.intro hs2 hp2); have S2 := Aside0.mk hst2; have SD2 := Aside0.mk hsd2; have G2 := Aside0.mk (grown_trans HG.out hg2); clear hs2 hp2 hst2 hsd2 hg2; have cc0w2 : w2.cell? ⟨W.heap.size, 0, none⟩ = some (.func (.func g) #[] lb) := box_cell HBl.out HH.out.grown.size G2.out 0 _ rfl; have cc1w2 : w2.cell? ⟨W.heap.size, 1, none⟩ = some (.func (.func sf) #[] sb) := box_cell HBl.out HH.out.grown.size G2.out 1 _ rfl))
              all_goals (first | go_end0 | trace_state)
              all_goals (exact ⟨rfl, d2, (fin_merge O (d1 := d) (d2 := d2) (d3 := d2) AR.out R1.out F1.out (.inl P2.out) (.inr ⟨rfl, HRt.out⟩)).1, (fin_merge O (d1 := d) (d2 := d2) (d3 := d2) AR.out R1.out F1.out (.inl P2.out) (.inr ⟨rfl, HRt.out⟩)).2, S2.out, SD2.out, grown_trans (grown_alloc _ _ _) G2.out⟩)
          · by_cases hq : mid < en ∧ en < b
            · have HR := Aside0.mk hr
              have HLf := Aside0.mk hl
              have HRt := Aside0.mk hq
              have hR0 : Rot d d i m en := by
                have hx : i = m ∨ i = mid := by have := AR.out; omega
                rcases hx with hx | hx
                · rw [hx]; exact rot_right d m _ (by have := AR.out; omega)
                · rw [hx, show en = m by have := AR.out; omega]; exact rot_left d mid m (by have := AR.out; omega)
              have R1 := Aside0.mk hR0
              have F1 := Aside0.mk (rot_parts' O HS1.out HS2.out HP.out HEN.out hR0)
              clear hR0
              go_wp2_with (first | (go_at_call 83; (try simp only [E2.out]); (try rw [E1.out]); have hc := HIH.out _ d mid en b AF.out.2.1 HS.out ((perm_size (rot_perm R1.out)).trans hd) HSd.out F1.out.2.2.1 F1.out.2.2.2.1 HRt.out.1 HRt.out.2 hbs; with_reducible refine hc.mono ?_; clear hc; rintro e w3 ⟨rfl, d3, hs3, hp3, hst3, hsd3, hg3⟩; have P3 := Aside0.mk (And.intro hs3 hp3); have S3 := Aside0.mk hst3; have SD3 := Aside0.mk hsd3; have G3 := Aside0.mk (grown_trans HG.out hg3); clear hs3 hp3 hst3 hsd3 hg3))
              all_goals (first | go_end0 | trace_state)
              all_goals (exact ⟨rfl, d3, (fin_merge O (d1 := d) (d2 := d) (d3 := d3) AR.out R1.out F1.out (.inr ⟨rfl, HLf.out⟩) (.inl P3.out)).1, (fin_merge O (d1 := d) (d2 := d) (d3 := d3) AR.out R1.out F1.out (.inr ⟨rfl, HLf.out⟩) (.inl P3.out)).2, S3.out, SD3.out, grown_trans (grown_alloc _ _ _) G3.out⟩)
            · have HR := Aside0.mk hr
              have HLf := Aside0.mk hl
              have HRt := Aside0.mk hq
              have hR0 : Rot d d i m en := by
                have hx : i = m ∨ i = mid := by have := AR.out; omega
                rcases hx with hx | hx
                · rw [hx]; exact rot_right d m _ (by have := AR.out; omega)
                · rw [hx, show en = m by have := AR.out; omega]; exact rot_left d mid m (by have := AR.out; omega)
              have R1 := Aside0.mk hR0
              have F1 := Aside0.mk (rot_parts' O HS1.out HS2.out HP.out HEN.out hR0)
              clear hR0
              go_wp2
              all_goals (first | go_end0 | trace_state)
              all_goals (exact ⟨rfl, d, (fin_merge O (d1 := d) (d2 := d) (d3 := d) AR.out R1.out F1.out (.inr ⟨rfl, HLf.out⟩) (.inr ⟨rfl, HRt.out⟩)).1, (fin_merge O (d1 := d) (d2 := d) (d3 := d) AR.out R1.out F1.out (.inr ⟨rfl, HLf.out⟩) (.inr ⟨rfl, HRt.out⟩)).2, HS.out, HSd.out, grown_trans (grown_alloc _ _ _) HG.out⟩)
  · -- m ≤ mid
    have hmm : (m : Int) ≤ ((a : Int) + (b : Int)) / 2 := by assumption
    obtain ⟨s0, hs0⟩ : ∃ s0, s0 = a := ⟨_, rfl⟩
    obtain ⟨r0, hr0⟩ : ∃ r0, r0 = m := ⟨_, rfl⟩
    have h0 : (m > mid ∧ s0 = mid + m - b ∧ r0 = mid) ∨ (m ≤ mid ∧ s0 = a ∧ r0 = m) := .inr ⟨by have := HMID.out; omega, hs0, hr0⟩
    have H0 := Aside0.mk h0
    have HR0 : Aside0 (a ≤ s0 ∧ s0 ≤ r0 ∧ r0 ≤ m ∧ s0 + b ≥ mid + m ∧ r0 ≤ mid) := ⟨by have := HMID.out; omega⟩
    have hq0 : (((m : Int) - (a : Int)) == 1) = false := by assumption
    have hq1 : (((b : Int) - (m : Int)) == 1) = false := by assumption
    have hne : m - a ≠ 1 ∧ b - m ≠ 1 := by
      constructor
      · intro h; rw [show (m : Int) - (a : Int) = 1 by omega] at hq0; cases hq0
      · intro h; rw [show (b : Int) - (m : Int) = 1 by omega] at hq1; cases hq1
    have AF : Aside0 (mid ≤ a + f ∧ b ≤ mid + f ∧ mid ≤ size) := ⟨by have := HMID.out; omega⟩
    have e18 : (a : Int) = (s0 : Int) := by have := HMID.out; omega
    have e19 : (m : Int) = (r0 : Int) := by have := HMID.out; omega
    rw [hq0, hq1]
    (try rw [show decide (((a : Int) + (b : Int)) / 2 < (m : Int)) = false from decide_eq_false (by omega)])
    have E18 := Aside0.mk e18
    have E19 := Aside0.mk e19
    clear h0 hs0 hr0 hne e18 e19
    go_loopg [18, 19] b (fun kq vi vj wr => ∃ (i j : Nat), vi = .int .i64 i ∧ vj = .int .i64 j ∧ s0 ≤ i ∧ i ≤ j ∧ j ≤ r0 ∧ Aside0 (j ≤ i + kq) ∧ Aside0 ((∀ c, s0 ≤ c → c < i → lt d[mid + m - 1 - c]! d[c]! = false) ∧ ∀ c, j ≤ c → c < r0 → lt d[mid + m - 1 - c]! d[c]! = true) ∧ Aside0 (St w wr blk off d) ∧ Aside0 ((W.alloc (.cells #[.func (.func g) #[] lb, .func (.func sf) #[] sb] 78)).grownBy wr (some blk)))
    case atStart => exact ⟨s0, r0, congrArg (Value.int .i64) E18.out, congrArg (Value.int .i64) E19.out, Nat.le_refl _, by have := HR0.out; omega, Nat.le_refl _, ⟨by have := HR0.out; omega⟩, ⟨fun c p q => by omega, fun c p q => by omega⟩, ⟨HH.out.below HBl.out ((Below.refl _ _).alloc (Nat.le_refl _) _)⟩, ⟨grown_refl _ _⟩⟩
    case round =>
      obtain ⟨i, j, rfl, rfl, hsi, hij0, hjr, HQ, HK, HS, HG⟩ := hrel
      have c0 : wr.cell? ⟨W.heap.size, 0, none⟩ = some (.func (.func g) #[] lb) := box_cell HBl.out HH.out.grown.size HG.out 0 _ rfl
      have c1 : wr.cell? ⟨W.heap.size, 1, none⟩ = some (.func (.func sf) #[] sb) := box_cell HBl.out HH.out.grown.size HG.out 1 _ rfl
      by_cases hij : i < j
      · obtain ⟨h, hh⟩ : ∃ h, h = (i + j) / 2 := ⟨_, rfl⟩
        obtain ⟨k1, rfl⟩ : ∃ k1, gk = k1 + 1 := ⟨gk - 1, by have := HQ.out; omega⟩
        have hh1 : i ≤ h ∧ h < j := by omega
        obtain ⟨x01, x02, x03, x04, x05⟩ := HR0.out
        have hl := hless wr d (mid + m - 1 - h) h HS.out HSd.out (by have := HR0.out; omega) (by have := HR0.out; omega)
        rw [show ((mid + m - 1 - h : Nat) : Int) = ((a : Int) + (b : Int)) / 2 + (m : Int) - 1 - ((i : Int) + (j : Int)) / 2 by have := HR0.out; have := HMID.out; omega, show ((h : Nat) : Int) = ((i : Int) + (j : Int)) / 2 by omega] at hl
        have HL := Aside0.mk hl
        have HHH := Aside0.mk hh
        clear hl hh
        cases hlv : lt d[mid + m - 1 - h]! d[h]! with
        | true =>
          have HLV := Aside0.mk hlv
          clear hlv
          go_wp2_with (go_at_fn g; refine HL.out.mono ?_; rintro e w' ⟨rfl, hb'⟩; have HB' := Aside0.mk hb'; clear hb'; rw [HLV.out])
          have hhi : ∀ c, h ≤ c → c < r0 → lt d[mid + m - 1 - c]! d[c]! = true := fun c p q => by
            have x0 := HR0.out
            have l1 := le_of_sorted O HS1.out (show a ≤ h by omega) (show h ≤ c by omega) (show c < m by omega)
            have l2 := le_of_sorted O HS2.out (show m ≤ mid + m - 1 - c by omega) (show mid + m - 1 - c ≤ mid + m - 1 - h by omega) (show mid + m - 1 - h < b by omega)
            cases hx : lt d[mid + m - 1 - c]! d[c]! with
            | true => rfl
            | false => have := O.ntrans _ _ _ (O.ntrans _ _ _ l2 hx) l1; rw [HLV.out] at this; cases this
          go_roundg k1
          case rel => exact ⟨i, h, rfl, by have := HHH.out; go_num, hsi, by omega, by omega, ⟨by have := HQ.out; have := HHH.out; omega⟩, ⟨HK.out.1, hhi⟩, ⟨HS.out.below HBl.out HB'.out⟩, ⟨grown_trans HG.out (grown_below HB'.out)⟩⟩
          case measure => exact Nat.lt_succ_self _
        | false =>
          have HLV := Aside0.mk hlv
          clear hlv
          go_wp2_with (go_at_fn g; refine HL.out.mono ?_; rintro e w' ⟨rfl, hb'⟩; have HB' := Aside0.mk hb'; clear hb'; rw [HLV.out])
          have hlo : ∀ c, s0 ≤ c → c < h + 1 → lt d[mid + m - 1 - c]! d[c]! = false := fun c p q => by
            have x0 := HR0.out
            have l1 := le_of_sorted O HS1.out (show a ≤ c by omega) (show c ≤ h by omega) (show h < m by omega)
            have l2 := le_of_sorted O HS2.out (show m ≤ mid + m - 1 - h by omega) (show mid + m - 1 - h ≤ mid + m - 1 - c by omega) (show mid + m - 1 - c < b by omega)
            exact O.ntrans _ _ _ (O.ntrans _ _ _ l2 HLV.out) l1
          go_roundg k1
          case rel => exact ⟨h + 1, j, by have := HHH.out; go_num, rfl, by omega, by omega, hjr, ⟨by have := HQ.out; have := HHH.out; omega⟩, ⟨hlo, HK.out.2⟩, ⟨HS.out.below HBl.out HB'.out⟩, ⟨grown_trans HG.out (grown_below HB'.out)⟩⟩
          case measure => exact Nat.lt_succ_self _
      · obtain rfl : i = j := by omega
        have hP : Part lt d a m b mid i := part_of O HS1.out HS2.out ham hmb HMID.out H0.out ⟨hsi, hjr⟩ HK.out.1 HK.out.2
        have HP := Aside0.mk hP
        obtain ⟨en, hen, hene⟩ : ∃ en, en + i = mid + m ∧ mid + m - i = en := ⟨mid + m - i, by obtain ⟨x1, x2, x3, x4, x5, _, _⟩ := hP; omega, rfl⟩
        have HEN := Aside0.mk hene
        have AR : Aside0 (a ≤ i ∧ i ≤ m ∧ i ≤ mid ∧ mid ≤ en ∧ en ≤ b ∧ en ≤ size ∧ m ≤ en ∧ a ≤ mid ∧ mid ≤ b ∧ b ≤ d.size ∧ en + i = mid + m) := ⟨by obtain ⟨x1, x2, x3, x4, x5, _, _⟩ := hP; have := HMID.out; omega⟩
        have AREN : Aside0 (en ≤ d.size) := ⟨by have := AR.out; omega⟩
        have E1 : Aside0 ((mid : Int) + (m : Int) - (i : Int) = (en : Int)) := ⟨by omega⟩
        clear hene hen
        have E2 : Aside0 (((a : Int) + (b : Int)) / 2 = (mid : Int)) := ⟨by have := HMID.out; omega⟩
        obtain ⟨ar1, ar2, ar3, ar4, ar5, ar6, ar7, ar8, ar9, ar10, ar11⟩ := AR.out
        have W3 := E2.out
        clear hP hsi hjr hij0 hij
        by_cases hr : i < m ∧ m < en
        · by_cases hl : a < i ∧ i < mid
          · by_cases hq : mid < en ∧ en < b
            · have HR := Aside0.mk hr
              have HLf := Aside0.mk hl
              have HRt := Aside0.mk hq
              go_wp2_with (first | (go_at_call 84; (try simp only [E2.out]); (try rw [E1.out]); have hc := rotate_calls g lb sf sb blk off size w HBl.out hswap hsz _ d HS.out hd i m en HR.out.1 HR.out.2 ar6; with_reducible refine hc.mono ?_; clear hc; rintro e w1 ⟨rfl, d1, hR1, hst1, hg1⟩; have R1 := Aside0.mk hR1; have S1 := Aside0.mk hst1; have G1 := Aside0.mk (grown_trans HG.out hg1); have F1 := Aside0.mk (rot_parts' O HS1.out HS2.out HP.out HEN.out hR1); have SD1 := Aside0.mk (HSc.out d d1 i en HSd.out AREN.out (rot_perm hR1)); clear hR1 hst1 hg1; have cc0w1 : w1.cell? ⟨W.heap.size, 0, none⟩ = some (.func (.func g) #[] lb) := box_cell HBl.out HH.out.grown.size G1.out 0 _ rfl; have cc1w1 : w1.cell? ⟨W.heap.size, 1, none⟩ = some (.func (.func sf) #[] sb) := box_cell HBl.out HH.out.grown.size G1.out 1 _ rfl) | (go_at_call 83; (try simp only [E2.out]); have hc := HIH.out _ d1 a i mid AF.out.1 S1.out ((perm_size (rot_perm R1.out)).trans hd) SD1.out F1.out.1 F1.out.2.1 HLf.out.1 HLf.out.2 AF.out.2.2; with_reducible refine hc.mono ?_; clear hc; rintro e w2 ⟨rfl, d2, hs2, hp2, hst2, hsd2, hg2⟩; have P2 := Aside0.mk (And.intro hs2 hp2); have S2 := Aside0.mk hst2; have SD2 := Aside0.mk hsd2; have G2 := Aside0.mk (grown_trans G1.out hg2); clear hs2 hp2 hst2 hsd2 hg2; have cc0w2 : w2.cell? ⟨W.heap.size, 0, none⟩ = some (.func (.func g) #[] lb) := box_cell HBl.out HH.out.grown.size G2.out 0 _ rfl; have cc1w2 : w2.cell? ⟨W.heap.size, 1, none⟩ = some (.func (.func sf) #[] sb) := box_cell HBl.out HH.out.grown.size G2.out 1 _ rfl) | (go_at_call 83; (try simp only [E2.out]); (try rw [E1.out]); have hc := HIH.out _ d2 mid en b AF.out.2.1 S2.out ((perm_size P2.out.2).trans ((perm_size (rot_perm R1.out)).trans hd)) SD2.out (sortedIn_congr (fun t x y => perm_out P2.out.2 t x) F1.out.2.2.1) (sortedIn_congr (fun t x y => perm_out P2.out.2 t (Nat.le_trans ar4 x)) F1.out.2.2.2.1) HRt.out.1 HRt.out.2 hbs; with_reducible refine hc.mono ?_; clear hc; rintro e w3 ⟨rfl, d3, hs3, hp3, hst3, hsd3, hg3⟩; have P3 := Aside0.mk (And.intro hs3 hp3); have S3 := Aside0.mk hst3; have SD3 := Aside0.mk hsd3; have G3 := Aside0.mk (grown_trans G2.out hg3); clear hs3 hp3 hst3 hsd3 hg3))
              all_goals (first | go_end0 | trace_state)
              all_goals (exact ⟨rfl, d3, (fin_merge O (d1 := d1) (d2 := d2) (d3 := d3) AR.out R1.out F1.out (.inl P2.out) (.inl P3.out)).1, (fin_merge O (d1 := d1) (d2 := d2) (d3 := d3) AR.out R1.out F1.out (.inl P2.out) (.inl P3.out)).2, S3.out, SD3.out, grown_trans (grown_alloc _ _ _) G3.out⟩)
            · have HR := Aside0.mk hr
              have HLf := Aside0.mk hl
              have HRt := Aside0.mk hq
              go_wp2_with (first | (go_at_call 84; (try simp only [E2.out]); (try rw [E1.out]); have hc := rotate_calls g lb sf sb blk off size w HBl.out hswap hsz _ d HS.out hd i m en HR.out.1 HR.out.2 ar6; with_reducible refine hc.mono ?_; clear hc; rintro e w1 ⟨rfl, d1, hR1, hst1, hg1⟩; have R1 := Aside0.mk hR1; have S1 := Aside0.mk hst1; have G1 := Aside0.mk (grown_trans HG.out hg1); have F1 := Aside0.mk (rot_parts' O HS1.out HS2.out HP.out HEN.out hR1); have SD1 := Aside0.mk (HSc.out d d1 i en HSd.out AREN.out (rot_perm hR1)); clear hR1 hst1 hg1; have cc0w1 : w1.cell? ⟨W.heap.size, 0, none⟩ = some (.func (.func g) #[] lb) := box_cell HBl.out HH.out.grown.size G1.out 0 _ rfl; have cc1w1 : w1.cell? ⟨W.heap.size, 1, none⟩ = some (.func (.func sf) #[] sb) := box_cell HBl.out HH.out.grown.size G1.out 1 _ rfl) | (go_at_call 83; (try simp only [E2.out]); have hc := HIH.out _ d1 a i mid AF.out.1 S1.out ((perm_size (rot_perm R1.out)).trans hd) SD1.out F1.out.1 F1.out.2.1 HLf.out.1 HLf.out.2 AF.out.2.2; with_reducible refine hc.mono ?_; clear hc; rintro e w2 ⟨rfl, d2, hs2, hp2, hst2, hsd2, hg2⟩; have P2 := Aside0.mk (And.intro hs2 hp2); have S2 := Aside0.mk hst2; have SD2 := Aside0.mk hsd2; have G2 := Aside0.mk (grown_trans G1.out hg2); clear hs2 hp2 hst2 hsd2 hg2; have cc0w2 : w2.cell? ⟨W.heap.size, 0, none⟩ = some (.func (.func g) #[] lb) := box_cell HBl.out HH.out.grown.size G2.out 0 _ rfl; have cc1w2 : w2.cell? ⟨W.heap.size, 1, none⟩ = some (.func (.func sf) #[] sb) := box_cell HBl.out HH.out.grown.size G2.out 1 _ rfl))
              all_goals (first | go_end0 | trace_state)
              all_goals (exact ⟨rfl, d2, (fin_merge O (d1 := d1) (d2 := d2) (d3 := d2) AR.out R1.out F1.out (.inl P2.out) (.inr ⟨rfl, HRt.out⟩)).1, (fin_merge O (d1 := d1) (d2 := d2) (d3 := d2) AR.out R1.out F1.out (.inl P2.out) (.inr ⟨rfl, HRt.out⟩)).2, S2.out, SD2.out, grown_trans (grown_alloc _ _ _) G2.out⟩)
          · by_cases hq : mid < en ∧ en < b
            · have HR := Aside0.mk hr
              have HLf := Aside0.mk hl
              have HRt := Aside0.mk hq
              go_wp2_with (first | (go_at_call 84; (try simp only [E2.out]); (try rw [E1.out]); have hc := rotate_calls g lb sf sb blk off size w HBl.out hswap hsz _ d HS.out hd i m en HR.out.1 HR.out.2 ar6; with_reducible refine hc.mono ?_; clear hc; rintro e w1 ⟨rfl, d1, hR1, hst1, hg1⟩; have R1 := Aside0.mk hR1; have S1 := Aside0.mk hst1; have G1 := Aside0.mk (grown_trans HG.out hg1); have F1 := Aside0.mk (rot_parts' O HS1.out HS2.out HP.out HEN.out hR1); have SD1 := Aside0.mk (HSc.out d d1 i en HSd.out AREN.out (rot_perm hR1)); clear hR1 hst1 hg1; have cc0w1 : w1.cell? ⟨W.heap.size, 0, none⟩ = some (.func (.func g) #[] lb) := box_cell HBl.out HH.out.grown.size G1.out 0 _ rfl; have cc1w1 : w1.cell? ⟨W.heap.size, 1, none⟩ = some (.func (.func sf) #[] sb) := box_cell HBl.out HH.out.grown.size G1.out 1 _ rfl) | (go_at_call 83; (try simp only [E2.out]); (try rw [E1.out]); have hc := HIH.out _ d1 mid en b AF.out.2.1 S1.out ((perm_size (rot_perm R1.out)).trans hd) SD1.out F1.out.2.2.1 F1.out.2.2.2.1 HRt.out.1 HRt.out.2 hbs; with_reducible refine hc.mono ?_; clear hc; rintro e w3 ⟨rfl, d3, hs3, hp3, hst3, hsd3, hg3⟩; have P3 := Aside0.mk (And.intro hs3 hp3); have S3 := Aside0.mk hst3; have SD3 := Aside0.mk hsd3; have G3 := Aside0.mk (grown_trans G1.out hg3); clear hs3 hp3 hst3 hsd3 hg3))
              all_goals (first | go_end0 | trace_state)
              all_goals (exact ⟨rfl, d3, (fin_merge O (d1 := d1) (d2 := d1) (d3 := d3) AR.out R1.out F1.out (.inr ⟨rfl, HLf.out⟩) (.inl P3.out)).1, (fin_merge O (d1 := d1) (d2 := d1) (d3 := d3) AR.out R1.out F1.out (.inr ⟨rfl, HLf.out⟩) (.inl P3.out)).2, S3.out, SD3.out, grown_trans (grown_alloc _ _ _) G3.out⟩)
            · have HR := Aside0.mk hr
              have HLf := Aside0.mk hl
              have HRt := Aside0.mk hq
              go_wp2_with (first | (go_at_call 84; (try simp only [E2.out]); (try rw [E1.out]); have hc := rotate_calls g lb sf sb blk off size w HBl.out hswap hsz _ d HS.out hd i m en HR.out.1 HR.out.2 ar6; with_reducible refine hc.mono ?_; clear hc; rintro e w1 ⟨rfl, d1, hR1, hst1, hg1⟩; have R1 := Aside0.mk hR1; have S1 := Aside0.mk hst1; have G1 := Aside0.mk (grown_trans HG.out hg1); have F1 := Aside0.mk (rot_parts' O HS1.out HS2.out HP.out HEN.out hR1); have SD1 := Aside0.mk (HSc.out d d1 i en HSd.out AREN.out (rot_perm hR1)); clear hR1 hst1 hg1; have cc0w1 : w1.cell? ⟨W.heap.size, 0, none⟩ = some (.func (.func g) #[] lb) := box_cell HBl.out HH.out.grown.size G1.out 0 _ rfl; have cc1w1 : w1.cell? ⟨W.heap.size, 1, none⟩ = some (.func (.func sf) #[] sb) := box_cell HBl.out HH.out.grown.size G1.out 1 _ rfl))
              all_goals (first | go_end0 | trace_state)
              all_goals (exact ⟨rfl, d1, (fin_merge O (d1 := d1) (d2 := d1) (d3 := d1) AR.out R1.out F1.out (.inr ⟨rfl, HLf.out⟩) (.inr ⟨rfl, HRt.out⟩)).1, (fin_merge O (d1 := d1) (d2 := d1) (d3 := d1) AR.out R1.out F1.out (.inr ⟨rfl, HLf.out⟩) (.inr ⟨rfl, HRt.out⟩)).2, S1.out, SD1.out, grown_trans (grown_alloc _ _ _) G1.out⟩)
        · by_cases hl : a < i ∧ i < mid
          · by_cases hq : mid < en ∧ en < b
            · have HR := Aside0.mk hr
              have HLf := Aside0.mk hl
              have HRt := Aside0.mk hq
              have hR0 : Rot d d i m en := by
                have hx : i = m ∨ i = mid := by have := AR.out; omega
                rcases hx with hx | hx
                · rw [hx]; exact rot_right d m _ (by have := AR.out; omega)
                · rw [hx, show en = m by have := AR.out; omega]; exact rot_left d mid m (by have := AR.out; omega)
              have R1 := Aside0.mk hR0
              have F1 := Aside0.mk (rot_parts' O HS1.out HS2.out HP.out HEN.out hR0)
              clear hR0
              go_wp2_with (first | (go_at_call 83; (try simp only [E2.out]); have hc := HIH.out _ d a i mid AF.out.1 HS.out ((perm_size (rot_perm R1.out)).trans hd) HSd.out F1.out.1 F1.out.2.1 HLf.out.1 HLf.out.2 AF.out.2.2; with_reducible refine hc.mono ?_; clear hc; rintro e w2 ⟨rfl, d2, hs2, hp2, hst2, hsd2, hg2⟩; have P2 := Aside0.mk (And.intro hs2 hp2); have S2 := Aside0.mk hst2; have SD2 := Aside0.mk hsd2; have G2 := Aside0.mk (grown_trans HG.out hg2); clear hs2 hp2 hst2 hsd2 hg2; have cc0w2 : w2.cell? ⟨W.heap.size, 0, none⟩ = some (.func (.func g) #[] lb) := box_cell HBl.out HH.out.grown.size G2.out 0 _ rfl; have cc1w2 : w2.cell? ⟨W.heap.size, 1, none⟩ = some (.func (.func sf) #[] sb) := box_cell HBl.out HH.out.grown.size G2.out 1 _ rfl) | (go_at_call 83; (try simp only [E2.out]); (try rw [E1.out]); have hc := HIH.out _ d2 mid en b AF.out.2.1 S2.out ((perm_size P2.out.2).trans ((perm_size (rot_perm R1.out)).trans hd)) SD2.out (sortedIn_congr (fun t x y => perm_out P2.out.2 t x) F1.out.2.2.1) (sortedIn_congr (fun t x y => perm_out P2.out.2 t (Nat.le_trans ar4 x)) F1.out.2.2.2.1) HRt.out.1 HRt.out.2 hbs; with_reducible refine hc.mono ?_; clear hc; rintro e w3 ⟨rfl, d3, hs3, hp3, hst3, hsd3, hg3⟩; have P3 := Aside0.mk (And.intro hs3 hp3); have S3 := Aside0.mk hst3; have SD3 := Aside0.mk hsd3; have G3 := Aside0.mk (grown_trans G2.out hg3); clear hs3 hp3 hst3 hsd3 hg3))
              all_goals (first | go_end0 | trace_state)
              all_goals (exact ⟨rfl, d3, (fin_merge O (d1 := d) (d2 := d2) (d3 := d3) AR.out R1.out F1.out (.inl P2.out) (.inl P3.out)).1, (fin_merge O (d1 := d) (d2 := d2) (d3 := d3) AR.out R1.out F1.out (.inl P2.out) (.inl P3.out)).2, S3.out, SD3.out, grown_trans (grown_alloc _ _ _) G3.out⟩)
            · have HR := Aside0.mk hr
              have HLf := Aside0.mk hl
              have HRt := Aside0.mk hq
              have hR0 : Rot d d i m en := by
                have hx : i = m ∨ i = mid := by have := AR.out; omega
                rcases hx with hx | hx
                · rw [hx]; exact rot_right d m _ (by have := AR.out; omega)
                · rw [hx, show en = m by have := AR.out; omega]; exact rot_left d mid m (by have := AR.out; omega)
              have R1 := Aside0.mk hR0
              have F1 := Aside0.mk (rot_parts' O HS1.out HS2.out HP.out HEN.out hR0)
              clear hR0
              go_wp2_with (first | (go_at_call 83; (try simp only [E2.out]); have hc := HIH.out _ d a i mid AF.out.1 HS.out ((perm_size (rot_perm R1.out)).trans hd) HSd.out F1.out.1 F1.out.2.1 HLf.out.1 HLf.out.2 AF.out.2.2; with_reducible refine hc.mono ?_; clear hc; rintro e w2 ⟨rfl, d2, hs2, hp2, hst2, hsd2, hg2⟩; have P2 := Aside0.mk (And.intro hs2 hp2); have S2 := Aside0.mk hst2; have SD2 := Aside0.mk hsd2; have G2 := Aside0.mk (grown_trans HG.out hg2); clear hs2 hp2 hst2 hsd2 hg2; have cc0w2 : w2.cell? ⟨W.heap.size, 0, none⟩ = some (.func (.func g) #[] lb) := box_cell HBl.out HH.out.grown.size G2.out 0 _ rfl; have cc1w2 : w2.cell? ⟨W.heap.size, 1, none⟩ = some (.func (.func sf) #[] sb) := box_cell HBl.out HH.out.grown.size G2.out 1 _ rfl))
              all_goals (first | go_end0 | trace_state)
              all_goals (exact ⟨rfl, d2, (fin_merge O (d1 := d) (d2 := d2) (d3 := d2) AR.out R1.out F1.out (.inl P2.out) (.inr ⟨rfl, HRt.out⟩)).1, (fin_merge O (d1 := d) (d2 := d2) (d3 := d2) AR.out R1.out F1.out (.inl P2.out) (.inr ⟨rfl, HRt.out⟩)).2, S2.out, SD2.out, grown_trans (grown_alloc _ _ _) G2.out⟩)
          · by_cases hq : mid < en ∧ en < b
            · have HR := Aside0.mk hr
              have HLf := Aside0.mk hl
              have HRt := Aside0.mk hq
              have hR0 : Rot d d i m en := by
                have hx : i = m ∨ i = mid := by have := AR.out; omega
                rcases hx with hx | hx
                · rw [hx]; exact rot_right d m _ (by have := AR.out; omega)
                · rw [hx, show en = m by have := AR.out; omega]; exact rot_left d mid m (by have := AR.out; omega)
              have R1 := Aside0.mk hR0
              have F1 := Aside0.mk (rot_parts' O HS1.out HS2.out HP.out HEN.out hR0)
              clear hR0
              go_wp2_with (first | (go_at_call 83; (try simp only [E2.out]); (try rw [E1.out]); have hc := HIH.out _ d mid en b AF.out.2.1 HS.out ((perm_size (rot_perm R1.out)).trans hd) HSd.out F1.out.2.2.1 F1.out.2.2.2.1 HRt.out.1 HRt.out.2 hbs; with_reducible refine hc.mono ?_; clear hc; rintro e w3 ⟨rfl, d3, hs3, hp3, hst3, hsd3, hg3⟩; have P3 := Aside0.mk (And.intro hs3 hp3); have S3 := Aside0.mk hst3; have SD3 := Aside0.mk hsd3; have G3 := Aside0.mk (grown_trans HG.out hg3); clear hs3 hp3 hst3 hsd3 hg3))
              all_goals (first | go_end0 | trace_state)
              all_goals (exact ⟨rfl, d3, (fin_merge O (d1 := d) (d2 := d) (d3 := d3) AR.out R1.out F1.out (.inr ⟨rfl, HLf.out⟩) (.inl P3.out)).1, (fin_merge O (d1 := d) (d2 := d) (d3 := d3) AR.out R1.out F1.out (.inr ⟨rfl, HLf.out⟩) (.inl P3.out)).2, S3.out, SD3.out, grown_trans (grown_alloc _ _ _) G3.out⟩)
            · have HR := Aside0.mk hr
              have HLf := Aside0.mk hl
              have HRt := Aside0.mk hq
              have hR0 : Rot d d i m en := by
                have hx : i = m ∨ i = mid := by have := AR.out; omega
                rcases hx with hx | hx
                · rw [hx]; exact rot_right d m _ (by have := AR.out; omega)
                · rw [hx, show en = m by have := AR.out; omega]; exact rot_left d mid m (by have := AR.out; omega)
              have R1 := Aside0.mk hR0
              have F1 := Aside0.mk (rot_parts' O HS1.out HS2.out HP.out HEN.out hR0)
              clear hR0
              go_wp2
              all_goals (first | go_end0 | trace_state)
              all_goals (exact ⟨rfl, d, (fin_merge O (d1 := d) (d2 := d) (d3 := d) AR.out R1.out F1.out (.inr ⟨rfl, HLf.out⟩) (.inr ⟨rfl, HRt.out⟩)).1, (fin_merge O (d1 := d) (d2 := d) (d3 := d) AR.out R1.out F1.out (.inr ⟨rfl, HLf.out⟩) (.inr ⟨rfl, HRt.out⟩)).2, HS.out, HSd.out, grown_trans (grown_alloc _ _ _) HG.out⟩)
end Go.Proofs.Ytfimodphnfejdaa.Srt
