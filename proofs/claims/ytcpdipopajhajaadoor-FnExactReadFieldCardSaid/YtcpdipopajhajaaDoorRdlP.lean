/- A list of numbers read from its text: plain laws. No program in sight, no condition. -/
import Derived.Test.YtcpdipopajhajaaDoorWordP
import Derived.Test.YtcpdipopajhajaaDoorLstP
namespace Go.Proofs.YtcpdipopajhajaaDoor
open Go.ChangeShapes Go.WideShapes Go.ChangeAt Go.RowKit
set_option linter.unusedVariables false
/-! ### a text cut at a byte, so often at most -/
theorem index_nil1 (c : UInt8) : Lib.index [] [c] = -1 := by rw [Lib.index]; simp
theorem index_hit1 (c : UInt8) (r : List UInt8) : Lib.index (c :: r) [c] = ((0 : Nat) : Int) := by rw [Lib.index]; simp [List.isPrefixOf]
theorem index_miss1 {c x : UInt8} (h : ¬ x = c) (r : List UInt8) : Lib.index (x :: r) [c] = if Lib.index r [c] == -1 then -1 else Lib.index r [c] + 1 := by
  have hp : ([c] : List UInt8).isPrefixOf (x :: r) = false := by simp [List.isPrefixOf, Ne.symm h]
  rw [Lib.index, hp]
  simp
theorem splitK_z (c : UInt8) (l : List UInt8) : Lib.splitK [c] 0 0 l = [l] := rfl
theorem splitK_s (c : UInt8) (k : Nat) (l : List UInt8) : Lib.splitK [c] 0 (k + 1) l = if Lib.index l [c] == -1 then [l] else l.take ((Lib.index l [c]).toNat + 0) :: Lib.splitK [c] 0 k (l.drop ((Lib.index l [c]).toNat + [c].length)) := rfl
theorem splitK_hit (c : UInt8) (k : Nat) (r : List UInt8) : Lib.splitK [c] 0 (k + 1) (c :: r) = [] :: Lib.splitK [c] 0 k r := by
  rw [splitK_s, index_hit1]
  simp
theorem splitK_miss {c x : UInt8} (h : ¬ x = c) (k : Nat) (r : List UInt8) : Lib.splitK [c] 0 k (x :: r) = hdP [x] (Lib.splitK [c] 0 k r) := by
  cases k with
  | zero => rfl
  | succ k =>
    rw [splitK_s, splitK_s, index_miss1 h]
    have hge := Lib.index_ge r [c]
    by_cases hm : Lib.index r [c] = -1
    · rw [hm]
      simp [hdP]
    · obtain ⟨j, hj⟩ : ∃ j : Nat, Lib.index r [c] = j := ⟨(Lib.index r [c]).toNat, by omega⟩
      have e1 : ((j : Int) == -1) = false := by rw [beq_eq_false_iff_ne]; omega
      have e2 : ((j : Int) + 1 == -1) = false := by rw [beq_eq_false_iff_ne]; omega
      have e3 : ((j : Int) + 1).toNat = j + 1 := by omega
      rw [hj, e1]
      simp only [Bool.false_eq_true, if_false, e2, e3, Int.toNat_natCast, Nat.add_zero, List.take_succ_cons, List.length_singleton, hdP, List.singleton_append]
      rfl
theorem splitK_ne (c : UInt8) (k : Nat) (l : List UInt8) : Lib.splitK [c] 0 k l ≠ [] := by
  cases k with
  | zero => rw [splitK_z]; simp
  | succ k => rw [splitK_s]; split <;> simp
theorem splitK_more (c : UInt8) : ∀ (l : List UInt8) (k : Nat), l.count c ≤ k → Lib.splitK [c] 0 k l = cutL c l
  | [], 0, _ => rfl
  | [], k + 1, _ => by rw [splitK_s, index_nil1]; rfl
  | x :: r, k, hk => by
    by_cases h : x = c
    · subst h
      rw [List.count_cons_self] at hk
      obtain ⟨j, rfl⟩ : ∃ j, k = j + 1 := ⟨k - 1, by omega⟩
      rw [splitK_hit, cutL_hit, splitK_more x r j (by omega)]
    · rw [List.count_cons_of_ne (by simpa using h)] at hk
      rw [splitK_miss h, cutL_miss h, splitK_more c r k hk]
theorem hdP_len (p : List UInt8) (l : List (List UInt8)) (h : l ≠ []) : (hdP p l).length = l.length := by
  cases l with
  | nil => exact absurd rfl h
  | cons a b => rfl
theorem splitK_few (c : UInt8) : ∀ (l : List UInt8) (k : Nat), k ≤ l.count c → (Lib.splitK [c] 0 k l).length = k + 1
  | [], k, hk => by
    obtain rfl : k = 0 := by simpa using hk
    rfl
  | x :: r, k, hk => by
    by_cases h : x = c
    · subst h
      rw [List.count_cons_self] at hk
      cases k with
      | zero => rfl
      | succ k => rw [splitK_hit, List.length_cons, splitK_few x r k (by omega)]
    · rw [List.count_cons_of_ne (by simpa using h)] at hk
      rw [splitK_miss h, hdP_len _ _ (splitK_ne c k r), splitK_few c r k hk]
theorem cutL_count (c : UInt8) (l : List UInt8) : (cutL c l).length = l.count c + 1 := by
  rw [← splitK_more c l _ (Nat.le_refl _), splitK_few c l _ (Nat.le_refl _)]
theorem pieces_count (s : ByteArray) (c : UInt8) : (pieces s c).length = s.data.toList.count c + 1 := by unfold pieces; rw [List.length_map, cutL_count]
theorem splitB_asS (s : ByteArray) (c : UInt8) (k : Nat) : Lib.splitB ⟨#[c]⟩ 0 k s = (Lib.splitK [c] 0 k s.data.toList).map asS := by
  have h := Lib.splitB_data ⟨#[c]⟩ 0 k s
  rw [show (⟨#[c]⟩ : ByteArray).data.toList = [c] from rfl] at h
  rw [← h, List.map_map, show (asS ∘ fun x : ByteArray => x.data.toList) = id from funext asS_data, List.map_id]
theorem splitB_more {s : ByteArray} {c : UInt8} {k : Nat} (h : (pieces s c).length ≤ k + 1) : Lib.splitB ⟨#[c]⟩ 0 k s = pieces s c := by
  rw [pieces_count] at h
  rw [splitB_asS, splitK_more c _ k (by omega)]
  rfl
theorem splitB_few {s : ByteArray} {c : UInt8} {k : Nat} (h : k + 1 ≤ (pieces s c).length) : (Lib.splitB ⟨#[c]⟩ 0 k s).length = k + 1 := by
  rw [pieces_count] at h
  rw [splitB_asS, List.length_map, splitK_few c _ k (by omega)]
/-- What SplitN gives at n pieces: all pieces where they are fewer, else n pieces. -/
def piecesN (s : ByteArray) (c : UInt8) (n : Nat) : List ByteArray := Lib.splitB ⟨#[c]⟩ 0 (min n (s.size + 1) - 1) s
theorem piecesN_all {s : ByteArray} {c : UInt8} {n : Nat} (h0 : 1 ≤ n) (h : (pieces s c).length ≤ n) : piecesN s c n = pieces s c := by
  have h1 := pieces_len s c
  exact splitB_more (by omega)
theorem piecesN_full {s : ByteArray} {c : UInt8} {n : Nat} (h0 : 1 ≤ n) (h : n < (pieces s c).length) : (piecesN s c n).length = n := by
  have h1 := pieces_len s c
  have h2 : min n (s.size + 1) - 1 = n - 1 := by omega
  unfold piecesN
  rw [h2, splitB_few (by omega)]
  omega
theorem piecesN_len (s : ByteArray) (c : UInt8) {n : Nat} (h0 : 1 ≤ n) : (piecesN s c n).length ≤ n := by
  by_cases h : (pieces s c).length ≤ n
  · rw [piecesN_all h0 h]; exact h
  · rw [piecesN_full h0 (by omega)]; exact Nat.le_refl _
theorem piecesN_size {s : ByteArray} {c : UInt8} {n : Nat} {x : ByteArray} (hx : x ∈ piecesN s c n) : x.size ≤ s.size := by
  have key : ∀ (k : Nat) (l : List UInt8) (y : List UInt8), y ∈ Lib.splitK [c] 0 k l → y.length ≤ l.length := by
    intro k
    induction k with
    | zero => intro l y hy; rw [splitK_z, List.mem_singleton] at hy; rw [hy]; exact Nat.le_refl _
    | succ k ih =>
      intro l y hy
      rw [splitK_s] at hy
      split at hy
      · rw [List.mem_singleton] at hy; rw [hy]; exact Nat.le_refl _
      · rcases List.mem_cons.1 hy with rfl | hy
        · rw [List.length_take]; omega
        · have := ih _ _ hy
          rw [List.length_drop] at this
          omega
  unfold piecesN at hx
  rw [splitB_asS] at hx
  obtain ⟨y, hy, rfl⟩ := List.mem_map.1 hx
  have h := key _ _ _ hy
  rw [lst_len] at h
  exact h
theorem pieces_size {s : ByteArray} {c : UInt8} {x : ByteArray} (hx : x ∈ pieces s c) : x.size ≤ s.size := by
  have h := pieces_len s c
  refine piecesN_size (c := c) (n := s.size + 1) ?_
  rw [piecesN_all (by omega) h]
  exact hx
/-! ### joined again -/
theorem join_hdP (p sep : List UInt8) (l : List (List UInt8)) (h : l ≠ []) : Lib.join (hdP p l) sep = p ++ Lib.join l sep := by
  cases l with
  | nil => exact absurd rfl h
  | cons a b => show Lib.join ((p ++ a) :: b) sep = _; rw [Lib.join_cons, Lib.join_cons, List.append_assoc]
theorem join_nilc (sep : List UInt8) (l : List (List UInt8)) (h : l ≠ []) : Lib.join ([] :: l) sep = sep ++ Lib.join l sep := by
  cases l with
  | nil => exact absurd rfl h
  | cons a b =>
    rw [Lib.join_cons, Lib.join_cons]
    unfold Lib.joinTail
    simp
theorem join_cutL (c : UInt8) : ∀ l : List UInt8, Lib.join (cutL c l) [c] = l
  | [] => by rw [cutL_nil, Lib.join_one]
  | x :: r => by
    by_cases h : x = c
    · subst h; rw [cutL_hit, join_nilc _ _ (cutL_ne _ _), join_cutL x r]; rfl
    · rw [cutL_miss h, join_hdP _ _ _ (cutL_ne _ _), join_cutL c r]; rfl
theorem pieces_lists (s : ByteArray) (c : UInt8) : (pieces s c).map (·.data.toList) = cutL c s.data.toList := by
  unfold pieces
  rw [List.map_map]
  exact List.map_id _
theorem join_pieces (s : ByteArray) (c : UInt8) : Lib.join ((pieces s c).map (·.data.toList)) [c] = s.data.toList := by rw [pieces_lists, join_cutL]
theorem pieces_empty (c : UInt8) : pieces ⟨#[]⟩ c = [⟨#[]⟩] := rfl
/-! ### the numbers between the commas -/
def vP (t : ByteArray) : Int := rnV t.data.toList
def nP (t : ByteArray) : Bool := numB t.data.toList
def okP (t : ByteArray) : Bool := nP t && okV (vP t)
def rdOk (s : ByteArray) : Bool := decide (s = ⟨#[45]⟩) || (decide ((pieces s 44).length ≤ 64) && (pieces s 44).all okP)
def rdV (s : ByteArray) : List Int := if s = ⟨#[45]⟩ then [] else if rdOk s then (pieces s 44).map vP else []
theorem rd_dash {s : ByteArray} (h : s = ⟨#[45]⟩) : rdOk s = true ∧ rdV s = [] := ⟨by unfold rdOk; rw [decide_eq_true h]; rfl, by unfold rdV; rw [if_pos h]⟩
theorem rd_no {s : ByteArray} (h : ¬ s = ⟨#[45]⟩) (k : (decide ((pieces s 44).length ≤ 64) && (pieces s 44).all okP) = false) : rdOk s = false ∧ rdV s = [] := by
  have e : rdOk s = false := by unfold rdOk; rw [decide_eq_false h, k]; rfl
  exact ⟨e, by unfold rdV; rw [if_neg h, e]; rfl⟩
theorem rd_long {s : ByteArray} (h : ¬ s = ⟨#[45]⟩) (k : 64 < (pieces s 44).length) : rdOk s = false ∧ rdV s = [] := rd_no h (by rw [decide_eq_false (by omega)]; rfl)
theorem rd_bad {s : ByteArray} (h : ¬ s = ⟨#[45]⟩) (k : Nat) (hk : k < (pieces s 44).length) (hb : okP (pieces s 44)[k] = false) : rdOk s = false ∧ rdV s = [] := by
  refine rd_no h ?_
  rw [Bool.and_eq_false_iff]
  refine .inr ?_
  cases e : (pieces s 44).all okP
  · rfl
  · have := List.all_eq_true.1 e _ (List.getElem_mem hk)
    rw [hb] at this
    cases this
theorem rd_all {s : ByteArray} (h : ¬ s = ⟨#[45]⟩) (k : (pieces s 44).length ≤ 64) (a : (pieces s 44).all okP = true) : rdOk s = true ∧ rdV s = (pieces s 44).map vP := by
  have e : rdOk s = true := by unfold rdOk; rw [decide_eq_true k, a]; simp
  exact ⟨e, by unfold rdV; rw [if_neg h, if_pos e]⟩
theorem okP_n {t : ByteArray} (h : nP t = false) : okP t = false := by unfold okP; rw [h]; rfl
theorem okP_v {t : ByteArray} (h : okV (vP t) = false) : okP t = false := by unfold okP; rw [h]; simp
theorem okP_t {t : ByteArray} (h : nP t = true) (k : okV (vP t) = true) : okP t = true := by unfold okP; rw [h, k]; rfl
theorem allP_snoc (f : ByteArray → Bool) (ps : List ByteArray) (k : Nat) (h : k < ps.length) (ha : (ps.take k).all f = true) (hk : f ps[k] = true) : (ps.take (k + 1)).all f = true := by
  rw [List.take_succ_eq_append_getElem h, List.all_append, ha]
  simp [hk]
theorem allP_take (f : ByteArray → Bool) (ps : List ByteArray) (h : (ps.take ps.length).all f = true) : ps.all f = true := by rwa [List.take_length] at h
def valsP (ps : List ByteArray) (k : Nat) : List Int := (ps.take k).map vP
theorem valsP_0 (ps : List ByteArray) : valsP ps 0 = [] := rfl
theorem valsP_s {ps : List ByteArray} {k : Nat} (h : k < ps.length) : valsP ps (k + 1) = valsP ps k ++ [vP ps[k]] := by
  unfold valsP
  rw [List.take_succ_eq_append_getElem h, List.map_append]
  rfl
theorem valsP_len {ps : List ByteArray} {k : Nat} (h : k ≤ ps.length) : (valsP ps k).length = k := by unfold valsP; rw [List.length_map, List.length_take]; omega
theorem valsP_all (ps : List ByteArray) : valsP ps ps.length = ps.map vP := by unfold valsP; rw [List.take_length]
/-- The numbers' text is the text. -/
theorem rd_back {s : ByteArray} (a : (pieces s 44).all nP = true) (f : fitsL ((pieces s 44).map vP) = true) : listT ((pieces s 44).map vP) = s := by
  have h0 : 0 < ((pieces s 44).map vP).length := by rw [List.length_map, pieces_count]; omega
  rw [listT_t f, listS_ne h0]
  apply eq_of_list
  show (joinL ((pieces s 44).map vP) ((pieces s 44).map vP).length) = _
  unfold joinL
  rw [List.take_length, List.map_map]
  have e : (pieces s 44).map (Lib.itoa ∘ vP) = (pieces s 44).map (·.data.toList) := by
    refine List.map_congr_left fun t ht => ?_
    have hn : numB t.data.toList = true := List.all_eq_true.1 a t ht
    show Lib.itoa (rnV t.data.toList) = _
    rw [rn_t hn, num_itoa hn]
  rw [e, join_pieces]
theorem rd_fits {s : ByteArray} (k : (pieces s 44).length ≤ 64) (a : (pieces s 44).all nP = true) : fitsL ((pieces s 44).map vP) = (pieces s 44).all okP := by
  unfold fitsL
  rw [decide_eq_true (by rw [List.length_map]; exact k), Bool.and_true, List.all_map]
  rw [Bool.eq_iff_iff, List.all_eq_true, List.all_eq_true]
  refine ⟨fun h t ht => okP_t (List.all_eq_true.1 a t ht) (h t ht), fun h t ht => ?_⟩
  have := h t ht
  unfold okP at this
  rw [Bool.and_eq_true] at this
  exact this.2
theorem rd_ne {s : ByteArray} (a : (pieces s 44).all nP = true) : ¬ s = ⟨#[]⟩ := by
  intro e
  subst e
  rw [pieces_empty] at a
  exact absurd a (by decide)
theorem rd_ne2 {s : ByteArray} (a : 1 < (pieces s 44).length) : ¬ s = ⟨#[]⟩ := by
  intro e
  subst e
  rw [pieces_empty] at a
  simp at a
end Go.Proofs.YtcpdipopajhajaaDoor
