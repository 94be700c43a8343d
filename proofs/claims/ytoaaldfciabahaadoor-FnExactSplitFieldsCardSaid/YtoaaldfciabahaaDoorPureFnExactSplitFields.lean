/- The law FnExactSplitFields returns true for all texts of less than 2^47 bytes. -/
import Derived.Test.YtoaaldfciabahaaDoorQFnExactSplitFieldsy2
import Derived.Test.YtoaaldfciabahaaDoorM0
import Derived.Test.YtoaaldfciabahaaDoorMT
namespace Go.Proofs.YtoaaldfciabahaaDoor.PureFnExactSplitFields
open Go Go.RowKit Go.Proofs.YtoaaldfciabahaaDoor.PFnExactSplitFields Go.Proofs.YtoaaldfciabahaaDoor.My Go.Proofs.YtoaaldfciabahaaDoorW.PrintWords Go.Proofs.YtoaaldfciabahaaDoorW.PrintLast Go.Proofs.YtoaaldfciabahaaDoorW.PrintMore
set_option linter.unusedVariables false
set_option linter.unusedSimpArgs false
theorem bt_list (s : ByteArray) (i : Nat) (h : i < s.data.toList.length) : bt s (i : Int) = ((s.data.toList[i]).toNat : Int) := by
  have hs : i < s.size := by rw [Lib.size_eq]; exact h
  rw [bt, dif_pos (by simpa using hs)]
  simp; rfl
theorem rdOf_get (L : List ByteArray) (i : Nat) (t : ByteArray) (h : L[i]? = some t) : rdOf ByteArray.empty L (i : Int) = t := by
  simp [rdOf, List.getD, h]
theorem Ev_shift {α : Type} {g : Nat → Option α} {r : α} (h : Ev g r) : Ev (fun k => g (k + 1)) r := by
  obtain ⟨K, h⟩ := h; exact ⟨K, fun k hk => h (k + 1) (by omega)⟩
theorem Ev_unshift3 {α : Type} {g : Nat → Option α} {r : α} (h : Ev (fun k => g (k + 1 + 1 + 1)) r) : Ev g r := by
  obtain ⟨K, h⟩ := h
  exact ⟨K + 3, fun k hk => by obtain ⟨j, rfl⟩ : ∃ j, k = j + 1 + 1 + 1 := ⟨k - 3, by omega⟩; exact h j (by omega)⟩
/-! Marks written into a list of texts, and read again. -/
def T (x : Int) : ByteArray := (laws_markText.f 20 x).getD ⟨#[]⟩
theorem T_small : ∀ x : Fin 30, (laws_markText.f 20 ((x.val : Int) + 1)).isSome = true := by decide +kernel
theorem T_up (x : Int) (t : ByteArray) (h : laws_markText.f 20 x = some t) : ∀ d, laws_markText.f (20 + d) x = some t
  | 0 => h
  | d + 1 => laws_markText.mono x (20 + d) t (T_up x t h d)
theorem T_ev (x : Int) (h0 : 1 ≤ x) (h1 : x ≤ 30) : Ev (fun k => laws_markText.f k x) (T x) := by
  have := T_small ⟨(x - 1).toNat, by omega⟩
  simp only [show (((x - 1).toNat : Nat) : Int) + 1 = x by omega] at this
  obtain ⟨t, ht⟩ := Option.isSome_iff_exists.mp this
  have e : T x = t := by rw [T, ht]; rfl
  rw [e]
  exact ⟨20, fun k hk => by obtain ⟨d, rfl⟩ : ∃ d, k = 20 + d := ⟨k - 20, by omega⟩; exact T_up x t ht d⟩
theorem mark_loop : ∀ (d i : Nat) (L : List ByteArray), i + d = L.length → L.length ≤ 24 → (∀ j, j < i → L[j]? = some (T (1 + (j : Int)))) →
    ∃ M : List ByteArray, M.length = L.length ∧ (∀ j, j < M.length → M[j]? = some (T (1 + (j : Int)))) ∧ Ev (fun k => laws_markStringS.l0 k L (1 + (i : Int)) (i : Int)) (1 + (L.length : Int), M) := by
  intro d
  induction d with
  | zero =>
    intro i L hi hl hj
    refine ⟨L, rfl, fun j h => hj j (by omega), Ev_at1 fun k => ?_⟩
    rw [laws_markStringS.l0, if_neg (by omega)]
    have : i = L.length := by omega
    rw [this]
  | succ d ih =>
    intro i L hi hl hj
    obtain ⟨M, hm, hM, he⟩ := ih (i + 1) (L.set i (T (1 + (i : Int)))) (by simp; omega) (by simpa using hl) (fun j h => by
      rw [List.getElem?_set]
      by_cases e : i = j
      · subst e; rw [if_pos rfl, if_pos (by omega)]
      · rw [if_neg e]; exact hj j (by omega))
    refine ⟨M, by simpa using hm, hM, ?_⟩
    have hT := T_ev (1 + (i : Int)) (by omega) (by omega)
    refine Ev.step (f := fun k => (laws_markText.f k (1 + (i : Int))).bind fun t131 => (if 0 ≤ (i : Int) then (laws_markStringS.l0 k (L.set (i : Int).toNat t131) (wrap64 ((1 + (i : Int)) + 1)) (wrap64 ((i : Int) + 1))) else (none))) (fun k => by rw [laws_markStringS.l0, if_pos (by omega)]) ?_
    refine Ev.bind hT (Ev.congr (fun k => ?_) (by simpa using he))
    rw [if_pos (by omega), wrap_id (n := (1 + (i : Int)) + 1) (by omega) (by omega), wrap_id (n := (i : Int) + 1) (by omega) (by omega)]
    simp only [Int.toNat_natCast]
    congr 1 <;> omega
theorem held_loop (M : List ByteArray) (hl : M.length ≤ 24) (hM : ∀ j, j < M.length → M[j]? = some (T (1 + (j : Int)))) : ∀ (d i : Nat), i + d = M.length →
    Ev (fun k => laws_heldStringS.l0 k M (1 + (i : Int)) (i : Int)) (1 + (M.length : Int)) := by
  intro d
  induction d with
  | zero =>
    intro i hi
    refine Ev_at1 fun k => ?_
    rw [laws_heldStringS.l0, if_neg (by omega)]
    have : i = M.length := by omega
    rw [this]
  | succ d ih =>
    intro i hi
    have hT := T_ev (1 + (i : Int)) (by omega) (by omega)
    refine Ev.step (f := fun k => (laws_markText.f k (1 + (i : Int))).bind fun t134 => (if (rdOf ByteArray.empty M (i : Int)).toList = t134.toList then (laws_heldStringS.l0 k M (wrap64 ((1 + (i : Int)) + 1)) (wrap64 ((i : Int) + 1))) else (some (-1)))) (fun k => by rw [laws_heldStringS.l0, if_pos (by omega), if_pos (by omega)]) ?_
    refine Ev.bind hT (Ev.congr (fun k => ?_) (ih (i + 1) (by omega)))
    rw [rdOf_get M i _ (hM i (by omega)), if_pos rfl, wrap_id (n := (1 + (i : Int)) + 1) (by omega) (by omega), wrap_id (n := (i : Int) + 1) (by omega) (by omega)]
    congr 1 <;> omega
theorem eqS_loop (L : List ByteArray) (hl : L.length ≤ 1000000) : ∀ (d i : Nat), i + d = L.length → Ev (fun k => laws_eqStringS.l0 k L L (i : Int)) true := by
  intro d
  induction d with
  | zero => intro i hi; exact Ev_at1 fun k => by rw [laws_eqStringS.l0, if_neg (by omega)]
  | succ d ih =>
    intro i hi
    refine Ev_round _ (fun k => ?_) (ih (i + 1) (by omega))
    rw [laws_eqStringS.l0, if_pos (by omega), if_pos (by omega), if_pos (by omega), if_pos rfl, wrap_id (n := (i : Int) + 1) (by omega) (by omega)]
    rfl
theorem eqS_ev (L : List ByteArray) (hl : L.length ≤ 1000000) : Ev (fun k => laws_eqStringS.f k L L) true :=
  Ev.congr (fun k => by rw [laws_eqStringS.f, if_pos rfl]; rfl) (eqS_loop L hl L.length 0 (by omega))
/-! Words of a line. -/
def sp : List UInt8 → List UInt8 → List (List UInt8)
  | cur, [] => [cur]
  | cur, c :: r => if c = 32 then cur :: sp [] r else sp (cur ++ [c]) r
def sw : List UInt8 → List UInt8 → List (List UInt8)
  | cur, [] => if cur = [] then [] else [cur]
  | cur, c :: r => if c = 32 then (if cur = [] then sw [] r else cur :: sw [] r) else sw (cur ++ [c]) r
theorem sp_sw : ∀ (l cur : List UInt8), (sp cur l).filter (fun p => decide (p ≠ [])) = sw cur l
  | [], cur => by rw [sp, sw]; by_cases h : cur = [] <;> simp [h]
  | c :: r, cur => by
    rw [sp, sw]
    by_cases h : c = 32
    · rw [if_pos h, if_pos h, List.filter_cons, sp_sw r []]
      by_cases e : cur = [] <;> simp [e]
    · rw [if_neg h, if_neg h, sp_sw r]
theorem sp_no : ∀ (l cur : List UInt8), (∀ k : Nat, l[k]? ≠ some 32) → sp cur l = [cur ++ l]
  | [], cur, _ => by rw [sp, List.append_nil]
  | c :: r, cur, h => by
    rw [sp, if_neg (fun e => h 0 (by rw [e]; rfl)), sp_no r _ (fun k => h (k + 1))]
    simp
theorem sp_hit : ∀ (i : Nat) (l cur : List UInt8), l[i]? = some 32 → (∀ k : Nat, k < i → l[k]? ≠ some 32) → sp cur l = (cur ++ l.take i) :: sp [] (l.drop (i + 1))
  | 0, l, cur, h, _ => by
    match l, h with
    | c :: r, h => simp at h; subst h; rw [sp, if_pos rfl]; simp
  | i + 1, l, cur, h, hk => by
    match l, h, hk with
    | c :: r, h, hk =>
      rw [sp, if_neg (fun e => hk 0 (by omega) (by rw [e]; rfl)), sp_hit i r _ (by simpa using h) (fun k q => by simpa using hk (k + 1) (by omega))]
      simp
theorem split_sp : ∀ (n : Nat) (s : ByteArray), s.size ≤ n → (Lib.splitB ⟨#[32]⟩ 0 (Lib.countB s ⟨#[32]⟩) s).map (·.data.toList) = sp [] s.data.toList := by
  intro n
  induction n with
  | zero =>
    intro s hs
    have h0 : s.data.toList = [] := List.eq_nil_of_length_eq_zero (by rw [← Lib.size_eq]; omega)
    rcases Lib.indexB_cases s ⟨#[32]⟩ with h | ⟨i, h, hi⟩
    · rw [Lib.countB_miss _ _ h, Lib.splitB_zero, h0]; simp [sp, h0]
    · have : (⟨#[32]⟩ : ByteArray).size = 1 := rfl
      omega
  | succ n ih =>
    intro s hs
    have h1 : (⟨#[32]⟩ : ByteArray).size = 1 := rfl
    rcases Lib.indexB_cases s ⟨#[32]⟩ with h | ⟨i, h, hi⟩
    · rw [Lib.countB_miss _ _ h, Lib.splitB_zero]
      have hb : Lib.indexByte s.data.toList 32 = -1 := by rw [← Lib.index_one]; exact h
      rw [sp_no _ _ (fun k => Lib.indexByte_none hb k)]; rfl
    · have hb : Lib.indexByte s.data.toList 32 = (i : Int) := by rw [← Lib.index_one]; exact h
      obtain ⟨e1, e2⟩ := Lib.indexByte_some hb
      rw [Lib.countB_hit s _ i (by omega) h, Nat.add_comm, Lib.splitB_hit _ _ _ _ i h, List.map_cons, h1, ih _ (by simp [ByteArray.size_extract]; omega), sp_hit i _ [] e1 e2]
      have e3 : (s.data.toList.drop (i + 1)).take (s.size - (i + 1)) = s.data.toList.drop (i + 1) := List.take_of_length_le (by rw [List.length_drop, Lib.size_eq]; omega)
      rw [Lib.extract_data, Lib.extract_data, e3]
      simp

def okc (c : UInt8) : Prop := 32 ≤ c.toNat ∧ c.toNat ≤ 126
instance (c : UInt8) : Decidable (okc c) := by unfold okc; infer_instance
def fin24 (o : List ByteArray) : List ByteArray × Bool := if (o.length : Int) > 24 then ([], false) else (o, true)
def ne (p : ByteArray) : Bool := decide (p.data.toList ≠ [])
/-! impl.SplitFields. -/
theorem pick_loop (P : List ByteArray) (hP : P.length ≤ 1000000) : ∀ (d i : Nat) (out : List ByteArray), i + d = P.length → out.length ≤ i →
    Ev (fun k => impl_SplitFields.l1 k out P (P.length : Int) (i : Int)) (fin24 (out ++ (P.drop i).filter ne)) := by
  intro d
  induction d with
  | zero =>
    intro i out hi ho
    refine Ev_at1 fun k => ?_
    rw [impl_SplitFields.l1, if_neg (by omega), List.drop_of_length_le (by omega), List.filter_nil, List.append_nil, fin24]
    split <;> rfl
  | succ d ih =>
    intro i out hi ho
    have hlt : i < P.length := by omega
    rw [List.drop_eq_getElem_cons hlt, List.filter_cons]
    have e := rdOf_get P i P[i] (List.getElem?_eq_getElem hlt)
    generalize P[i] = p at e ⊢
    by_cases c : p.data.toList = []
    · have hn : ne p = false := by simp [ne, c]
      rw [hn, if_neg (by simp)]
      refine Ev_round _ (fun k => ?_) (ih (i + 1) out (by omega) (by omega))
      rw [impl_SplitFields.l1, if_pos (by omega), if_pos (by omega), if_pos (by omega), e, if_pos (by rw [Lib.toList_data]; exact c), wrap_id (n := (i : Int) + 1) (by omega) (by omega)]
      rfl
    · have hn : ne p = true := by simp [ne, c]
      rw [hn, if_pos rfl]
      have := ih (i + 1) (out ++ [p]) (by omega) (by simp; omega)
      rw [List.append_assoc] at this
      refine Ev_round _ (fun k => ?_) this
      rw [impl_SplitFields.l1, if_pos (by omega), if_pos (by omega), if_pos (by omega), e, if_neg (by rw [Lib.toList_data]; exact c), if_pos (by omega), wrap_id (n := (i : Int) + 1) (by omega) (by omega)]
      rfl
theorem chars_loop (s : ByteArray) (hs : s.size ≤ 1000000) (R : List ByteArray × Bool) (hR : Ev (fun k => (strings_Split.f s (⟨#[32]⟩ : ByteArray)).bind fun t119 => (impl_SplitFields.l1 k (([] : List ByteArray)) t119 (t119.length : Int) 0)) R) :
    ∀ (d i : Nat), i + d = s.data.toList.length → ((∀ c ∈ s.data.toList.drop i, okc c) → Ev (fun k => impl_SplitFields.l0 k s (i : Int)) R) ∧ ((∃ c ∈ s.data.toList.drop i, ¬ okc c) → Ev (fun k => impl_SplitFields.l0 k s (i : Int)) ([], false)) := by
  have hz : (s.size : Int) = (s.data.toList.length : Int) := by rw [Lib.size_eq]
  intro d
  induction d with
  | zero =>
    intro i hi
    refine ⟨fun _ => ?_, fun ⟨c, hc, _⟩ => ?_⟩
    · refine Ev.step (f := fun k => (strings_Split.f s (⟨#[32]⟩ : ByteArray)).bind fun t119 => (impl_SplitFields.l1 k (([] : List ByteArray)) t119 (t119.length : Int) 0)) (fun k => ?_) hR
      rw [impl_SplitFields.l0, if_neg (by omega)]
    · rw [List.drop_of_length_le (by omega)] at hc; simp at hc
  | succ d ih =>
    intro i hi
    have hlt : i < s.data.toList.length := by omega
    have e0 := bt_list s i hlt
    rw [List.drop_eq_getElem_cons hlt]
    generalize s.data.toList[i] = c at e0 ⊢
    have step : okc c → ∀ k, impl_SplitFields.l0 (k + 1) s (i : Int) = impl_SplitFields.l0 k s ((i + 1 : Nat) : Int) := by
      intro h k
      rw [impl_SplitFields.l0, if_pos (by omega), if_pos (by omega), e0, if_neg (by unfold okc at h; omega), if_neg (by unfold okc at h; omega), wrap_id (n := (i : Int) + 1) (by omega) (by omega)]
      rfl
    have bad : ¬ okc c → Ev (fun k => impl_SplitFields.l0 k s (i : Int)) ([], false) := by
      intro h
      refine Ev_at1 fun k => ?_
      rw [impl_SplitFields.l0, if_pos (by omega), if_pos (by omega), e0]
      by_cases q : (c.toNat : Int) < 32
      · rw [if_pos q]
      · rw [if_neg q, if_pos (by unfold okc at h; omega)]
    refine ⟨fun h => ?_, fun ⟨b, hb, hn⟩ => ?_⟩
    · exact Ev_round _ (step (h c (by simp))) ((ih (i + 1) (by omega)).1 fun b hb => h b (List.mem_cons_of_mem _ hb))
    · by_cases q : okc c
      · refine Ev_round _ (step q) ((ih (i + 1) (by omega)).2 ⟨b, ?_, hn⟩)
        rcases List.mem_cons.1 hb with e | e
        · subst e; exact absurd q hn
        · exact e
      · exact bad q
/-- The words of a text. -/
def words (s : ByteArray) : List ByteArray := (sw [] s.data.toList).map tx
theorem split_words (s : ByteArray) : (Lib.splitB ⟨#[32]⟩ 0 (Lib.countB s ⟨#[32]⟩) s).filter ne = words s := by
  have h := split_sp s.size s (Nat.le_refl _)
  have e : ∀ P : List ByteArray, P.filter ne = (((P.map (·.data.toList)).filter (fun p => decide (p ≠ []))).map tx) := by
    intro P
    induction P with
    | nil => rfl
    | cons p r ih =>
      rw [List.filter_cons, ih, List.map_cons, List.filter_cons, ne]
      by_cases c : p.data.toList = []
      · simp [c]
      · simp [c, tx_data]
  rw [e, h, sp_sw, words]
theorem isplit_ev (s : ByteArray) (hs : s.size ≤ 600) : Ev (fun k => impl_SplitFields.f k s) (if ∀ c ∈ s.data.toList, okc c then fin24 (words s) else ([], false)) := by
  have hR : Ev (fun k => (strings_Split.f s (⟨#[32]⟩ : ByteArray)).bind fun t119 => (impl_SplitFields.l1 k (([] : List ByteArray)) t119 (t119.length : Int) 0)) (fin24 (words s)) := by
    have hlen : (Lib.splitB ⟨#[32]⟩ 0 (Lib.countB s ⟨#[32]⟩) s).length = Lib.countB s ⟨#[32]⟩ + 1 := Lib.splitB_all _ (by decide) 0 _ _ rfl
    have hle : Lib.countB s ⟨#[32]⟩ ≤ s.size := Lib.countB_le _ (by decide) s.size s (Nat.le_refl _)
    have hp := pick_loop (Lib.splitB ⟨#[32]⟩ 0 (Lib.countB s ⟨#[32]⟩) s) (by omega) _ 0 [] (by rw [Nat.zero_add]) (by simp)
    rw [List.drop_zero, List.nil_append, split_words] at hp
    refine Ev.congr (fun k => ?_) hp
    rw [strings_Split.f, if_pos ⟨by omega, by decide⟩, Option.bind_some]
    rfl
  have hc := chars_loop s (by omega) _ hR s.data.toList.length 0 (by omega)
  rw [List.drop_zero] at hc
  have hf : ∀ k, impl_SplitFields.f k s = impl_SplitFields.l0 k s ((0 : Nat) : Int) := fun k => by rw [impl_SplitFields.f, if_neg (by omega)]; rfl
  refine Ev.congr hf ?_
  by_cases A : ∀ c ∈ s.data.toList, okc c
  · rw [if_pos A]; exact hc.1 A
  · rw [if_neg A]
    exact hc.2 (by simpa using A)
/-! spec.SplitFields. -/
theorem extract_tx (s : ByteArray) (b i : Nat) : s.extract b i = tx ((s.data.toList.drop b).take (i - b)) := by
  rw [Lib.extract_eq]; rfl
theorem s_ne (s : ByteArray) (hs : s.size ≤ 1000000) (i b : Nat) (out : List ByteArray) (c : UInt8) (hi : i < s.size) (e0 : bt s (i : Int) = (c.toNat : Int)) (h : okc c) (hc : c ≠ 32) (k : Nat) :
    spec_SplitFields.l0 (k + 1 + 1 + 1) s out (b : Int) (i : Int) = spec_SplitFields.l0 k s out (b : Int) ((i + 1 : Nat) : Int) := by
  obtain ⟨h1, h2⟩ := h
  have hn : ¬ (c.toNat : Int) = 32 := fun e => hc (UInt8.toNat_inj.mp (show c.toNat = 32 from by omega))
  rw [spec_SplitFields.l0, if_pos (by omega), if_pos (by omega), if_pos (by omega), e0, if_neg (by omega), decide_eq_false (by omega), spec_SplitFields.j1, if_neg (by simp), if_pos (by omega), if_pos (by omega), e0, spec_SplitFields.j2, if_pos (bne_iff_ne.mpr hn), wrap_id (n := (i : Int) + 1) (by omega) (by omega)]
  rfl
theorem s_sp (s : ByteArray) (hs : s.size ≤ 1000000) (i b : Nat) (out : List ByteArray) (hb : b ≤ i) (ho : out.length ≤ 1000000) (hi : (i < s.size ∧ bt s (i : Int) = 32) ∨ i = s.size) (k : Nat) :
    spec_SplitFields.l0 (k + 1 + 1 + 1) s out (b : Int) (i : Int) = spec_SplitFields.l0 k s (if b < i then out ++ [s.extract b i] else out) ((i + 1 : Nat) : Int) ((i + 1 : Nat) : Int) := by
  have e2 : ∀ j, spec_SplitFields.j2 (j + 1) s out (b : Int) (i : Int) false = spec_SplitFields.l0 j s (if b < i then out ++ [s.extract b i] else out) ((i + 1 : Nat) : Int) ((i + 1 : Nat) : Int) := by
    intro j
    have hle : i ≤ s.size := by rcases hi with ⟨h, _⟩ | h <;> omega
    rw [spec_SplitFields.j2, if_neg (by simp)]
    by_cases c : b < i
    · rw [if_pos (by omega), if_pos (by omega), if_pos (by omega), if_pos (by omega), if_pos (by omega), if_pos c, wrap_id (n := (i : Int) + 1) (by omega) (by omega)]
      rfl
    · rw [if_neg (by omega), if_neg c, wrap_id (n := (i : Int) + 1) (by omega) (by omega)]
      rfl
  rcases hi with ⟨hi, e0⟩ | hi
  · rw [spec_SplitFields.l0, if_pos (by omega), if_pos (by omega), if_pos (by omega), e0, if_neg (by omega), decide_eq_false (by omega), spec_SplitFields.j1, if_neg (by simp), if_pos (by omega), if_pos (by omega), e0, show ((32 : Int) != 32) = false from rfl, e2]
  · rw [spec_SplitFields.l0, if_pos (by omega), if_neg (by omega), spec_SplitFields.j1, if_neg (by simp), if_neg (by omega), e2]
theorem s_bad (s : ByteArray) (i b : Nat) (out : List ByteArray) (c : UInt8) (hi : i < s.size) (e0 : bt s (i : Int) = (c.toNat : Int)) (h : ¬ okc c) (k : Nat) :
    spec_SplitFields.l0 (k + 1 + 1 + 1) s out (b : Int) (i : Int) = some ([], false) := by
  rw [spec_SplitFields.l0, if_pos (by omega), if_pos (by omega), if_pos (by omega), e0]
  by_cases q : (c.toNat : Int) < 32
  · rw [if_pos q, spec_SplitFields.j1, if_pos rfl]
  · rw [if_neg q, decide_eq_true (by unfold okc at h; omega), spec_SplitFields.j1, if_pos rfl]
theorem line_loop (s : ByteArray) (hs : s.size ≤ 1000000) : ∀ (d i b : Nat) (out : List ByteArray), i + d = s.data.toList.length → b ≤ i → out.length ≤ i →
    ((∀ c ∈ s.data.toList.drop i, okc c) → Ev (fun k => spec_SplitFields.l0 k s out (b : Int) (i : Int)) (fin24 (out ++ (sw ((s.data.toList.drop b).take (i - b)) (s.data.toList.drop i)).map tx))) ∧
    ((∃ c ∈ s.data.toList.drop i, ¬ okc c) → Ev (fun k => spec_SplitFields.l0 k s out (b : Int) (i : Int)) ([], false)) := by
  have hz : s.size = s.data.toList.length := Lib.size_eq s
  intro d
  induction d with
  | zero =>
    intro i b out hi hb ho
    have hcur : ((s.data.toList.drop b).take (i - b) = []) ↔ ¬ b < i := by
      rw [← List.length_eq_zero_iff, List.length_take, List.length_drop]; omega
    refine ⟨fun _ => ?_, fun ⟨c, hc, _⟩ => ?_⟩
    · refine Ev_unshift3 (Ev.congr (fun k => s_sp s hs i b out hb (by omega) (.inr (by omega)) k) ?_)
      rw [List.drop_of_length_le (show s.data.toList.length ≤ i by omega), sw]
      have fine : ∀ o : List ByteArray, Ev (fun k => spec_SplitFields.l0 k s o ((i + 1 : Nat) : Int) ((i + 1 : Nat) : Int)) (fin24 o) := by
        intro o
        refine Ev_at1 fun k => ?_
        rw [spec_SplitFields.l0, if_neg (by omega), fin24]
        split <;> rfl
      by_cases c : b < i
      · rw [if_pos c, if_neg (fun e => (hcur.1 e) c), extract_tx]
        exact fine _
      · rw [if_neg c, if_pos (hcur.2 c)]
        simpa using fine out
    · rw [List.drop_of_length_le (by omega)] at hc; simp at hc
  | succ d ih =>
    intro i b out hi hb ho
    have hlt : i < s.data.toList.length := by omega
    have e0 := bt_list s i hlt
    have hcur : ((s.data.toList.drop b).take (i - b) = []) ↔ ¬ b < i := by
      rw [← List.length_eq_zero_iff, List.length_take, List.length_drop]; omega
    have hnext : (s.data.toList.drop b).take (i + 1 - b) = (s.data.toList.drop b).take (i - b) ++ [s.data.toList[i]] := by
      rw [show i + 1 - b = (i - b) + 1 by omega, List.take_succ_eq_append_getElem (by rw [List.length_drop]; omega)]
      congr 1
      simp only [List.getElem_drop]
      congr 2; omega
    rw [List.drop_eq_getElem_cons hlt]
    generalize s.data.toList[i] = c at e0 hnext ⊢
    have hol : (if b < i then out ++ [s.extract b i] else out).length ≤ i + 1 := by
      split
      · rw [List.length_append, List.length_singleton]; omega
      · omega
    refine ⟨fun h => ?_, fun ⟨x, hx, hn⟩ => ?_⟩
    · have hk : okc c := h c (by simp)
      have hr : ∀ x ∈ s.data.toList.drop (i + 1), okc x := fun x hx => h x (List.mem_cons_of_mem _ hx)
      rw [sw]
      by_cases q : c = 32
      · rw [if_pos q]
        refine Ev_unshift3 (Ev.congr (fun k => s_sp s hs i b out hb (by omega) (.inl ⟨by omega, by rw [e0, q]; rfl⟩) k) ?_)
        have := (ih (i + 1) (i + 1) (if b < i then out ++ [s.extract b i] else out) (by omega) (Nat.le_refl _) hol).1 hr
        rw [Nat.sub_self, List.take_zero] at this
        by_cases w : b < i
        · rw [if_pos w] at this ⊢
          rw [if_neg (fun e => (hcur.1 e) w), List.map_cons, ← extract_tx]
          rw [List.append_assoc] at this
          exact this
        · rw [if_neg w] at this ⊢
          rw [if_pos (hcur.2 w)]
          exact this
      · rw [if_neg q]
        refine Ev_unshift3 (Ev.congr (fun k => s_ne s hs i b out c (by omega) e0 hk q k) ?_)
        have := (ih (i + 1) b out (by omega) (by omega) (by omega)).1 hr
        rw [hnext] at this
        exact this
    · by_cases hk : okc c
      · have hx' : ∃ x ∈ s.data.toList.drop (i + 1), ¬ okc x := by
          rcases List.mem_cons.1 hx with e | e
          · subst e; exact absurd hk hn
          · exact ⟨x, e, hn⟩
        by_cases q : c = 32
        · exact Ev_unshift3 (Ev.congr (fun k => s_sp s hs i b out hb (by omega) (.inl ⟨by omega, by rw [e0, q]; rfl⟩) k) ((ih (i + 1) (i + 1) _ (by omega) (Nat.le_refl _) hol).2 hx'))
        · exact Ev_unshift3 (Ev.congr (fun k => s_ne s hs i b out c (by omega) e0 hk q k) ((ih (i + 1) b out (by omega) (by omega) (by omega)).2 hx'))
      · exact Ev_unshift3 (Ev_eq fun k => s_bad s i b out c (by omega) e0 hk k)
theorem ssplit_ev (s : ByteArray) (hs : s.size ≤ 600) : Ev (fun k => spec_SplitFields.f k s) (if ∀ c ∈ s.data.toList, okc c then fin24 (words s) else ([], false)) := by
  have hc := line_loop s (by omega) s.data.toList.length 0 0 [] (by omega) (Nat.le_refl _) (Nat.le_refl _)
  rw [List.drop_zero] at hc
  have hf : ∀ k, spec_SplitFields.f k s = spec_SplitFields.l0 k s [] ((0 : Nat) : Int) ((0 : Nat) : Int) := fun k => by rw [spec_SplitFields.f, Option.bind_some, if_neg (by omega)]; rfl
  refine Ev.congr hf ?_
  by_cases A : ∀ c ∈ s.data.toList, okc c
  · rw [if_pos A]; have := hc.1 A; simpa [words] using this
  · rw [if_neg A]; exact hc.2 (by simpa using A)
theorem law_of (s : ByteArray) (L : List ByteArray) (b : Bool) (hl : L.length ≤ 24) (hS : Ev (fun k => spec_SplitFields.f k s) (L, b)) (hI : Ev (fun k => impl_SplitFields.f k s) (L, b)) (hb : ¬ (s.size : Int) > 1048576) :
    Ev (fun k => laws_FnExactSplitFields.f k s) true := by
  obtain ⟨M, hm, hM, hmark⟩ := mark_loop L.length 0 L (by omega) hl (fun j h => absurd h (Nat.not_lt_zero j))
  have hmark' : Ev (fun k => laws_markStringS.f k L 1) (1 + (L.length : Int), M) := Ev.congr (fun k => by rw [laws_markStringS.f]; rfl) hmark
  have hheld := held_loop M (by omega) hM M.length 0 (by omega)
  have hheld' : Ev (fun k => laws_heldStringS.f k M 1) (1 + (L.length : Int)) := Ev.congr (fun k => by rw [laws_heldStringS.f]) (by rw [← hm]; exact hheld)
  have h1 : Ev (fun k => laws_FnExactSplitFields.j1 k M (1 + (L.length : Int)) false) true := by
    refine Ev.step (f := fun k => (laws_heldStringS.f k M 1).bind fun t152 => (if t152 < 0 then (some false) else (if t152 = (1 + (L.length : Int)) then (some true) else (some false)))) (fun k => by rw [laws_FnExactSplitFields.j1, if_neg (by simp)]) ?_
    refine Ev.bind hheld' (Ev_eq fun k => ?_)
    rw [if_neg (by omega), if_pos rfl]
  have h0 : Ev (fun k => laws_FnExactSplitFields.j0 k s L b L false) true := by
    refine Ev.step (f := fun k => (laws_markStringS.f k L 1).bind fun bt144 => ((laws_heldStringS.f k bt144.2 1).bind fun t146 => (if t146 < 0 then (some false) else (if t146 = bt144.1 then ((impl_SplitFields.f k s).bind fun bt147 => ((laws_eqStringS.f k bt147.1 L).bind fun t151 => (if t151 = true then (laws_FnExactSplitFields.j1 k bt144.2 bt144.1 (bt147.2 != b)) else (laws_FnExactSplitFields.j1 k bt144.2 bt144.1 true)))) else (some false))))) (fun k => by rw [laws_FnExactSplitFields.j0, if_neg (by simp)]) ?_
    refine Ev.bind hmark' (Ev.bind hheld' ?_)
    refine Ev.congr (fun k => by rw [if_neg (by omega), if_pos rfl]) (Ev.bind hI (Ev.bind (eqS_ev L (by omega)) ?_))
    exact Ev.congr (fun k => by rw [if_pos rfl, bne_self_eq_false]) h1
  unfold laws_FnExactSplitFields.f
  refine Ev.congr (fun k => by rw [if_neg hb]) (Ev.bind hS (Ev.bind hI (Ev.bind (eqS_ev L (by omega)) ?_)))
  exact Ev.congr (fun k => by rw [if_pos rfl, bne_self_eq_false]) h0
theorem fin24_cases (o : List ByteArray) : (fin24 o).1.length ≤ 24 := by
  rw [fin24]; split
  · simp
  · simp only; omega
theorem main (s : ByteArray) (h0 : s.size ≤ 140737488351232) : ∃ k, laws_FnExactSplitFields.f k s = some true := by
  refine Ev.rounds ?_
  by_cases hb : (s.size : Int) > 1048576
  · exact Ev_eq fun k => by rw [laws_FnExactSplitFields.f, if_pos hb]
  · by_cases c : (s.size : Int) > 600
    · refine law_of s [] false (by simp) (Ev_eq fun k => ?_) (Ev_eq fun k => ?_) hb
      · rw [spec_SplitFields.f, Option.bind_some, if_pos c]
      · rw [impl_SplitFields.f, if_pos c]
    · have hS := ssplit_ev s (by omega)
      have hI := isplit_ev s (by omega)
      by_cases A : ∀ c ∈ s.data.toList, okc c
      · rw [if_pos A] at hS hI
        exact law_of s _ _ (fin24_cases _) hS hI hb
      · rw [if_neg A] at hS hI
        exact law_of s [] false (by simp) hS hI hb

end Go.Proofs.YtoaaldfciabahaaDoor.PureFnExactSplitFields
