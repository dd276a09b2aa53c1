/-
  PLAIN WORDS: the pieces of an expression; other names. PLAIN LAW for MoveApart.
  PLAIN LAW for MoveApart.
  PLAIN WORDS: pieces in the order of their names; a name that stands there twice.
  PLAIN WORDS: the order of lists of nodes; values, piece by piece.
  PLAIN WORDS: values, piece by piece; a value and what the reader of values says.
  PLAIN LAW: what is moved stays what it is; there and back.
-/
import Derived.Test.YtnhcjpmamgdeoaaGreatDoorP
import Derived.Sort.Walk0
import Derived.Sort.Statements
import Derived.Shelf.SlSortCmp.Insertion
namespace Go.Proofs.YtnhcjpmamgdeoaaGreatDoor
open Go.RowKit

def headS (p : List Nd) : ByteArray := (p.head?.map Nd.s).getD ⟨#[]⟩
/-- A list of nodes, piece by piece. -/
def kidsGo : Nat → List Nd → List (List Nd)
  | 0, _ => []
  | _ + 1, [] => []
  | k + 1, x :: l =>
    match skP (x :: l) 1 0 with
    | some j => (x :: l).take j :: kidsGo k ((x :: l).drop j)
    | none => []
/-- So many expressions, one behind the other; of a Rec's, the names rise. -/
def ExK : Bool → ByteArray → List (List Nd) → Prop
  | _, _, [] => True
  | r, l, p :: ps => Ex (.one r) p ∧ (r = true → sLate l (headS p) = false) ∧ ExK r (if r = true then headS p else l) ps
theorem ex_ne {b : Bool} {p : List Nd} (h : Ex (.one b) p) : ∃ x xs, p = x :: xs ∧ shapedT x = true ∧ (x.op == 7) = b := by
  cases h with
  | one n body fld hs h7 hb => exact ⟨n, body, rfl, hs, h7⟩
theorem ex_pieces {t : BTag} {xs : List Nd} (h : Ex t xs) : match t with
    | .one _ => True
    | .more c r l => ∃ ps : List (List Nd), ps.length = c ∧ xs = ps.flatten ∧ ExK r l ps := by
  induction h with
  | one n body fld hs h7 hb ih => trivial
  | nil r l => exact ⟨[], rfl, rfl, trivial⟩
  | cons c r l m xs ys hl hx hy ih1 ih2 =>
    obtain ⟨ps, h1, h2, h3⟩ := ih2
    exact ⟨(m :: xs) :: ps, by simp [h1], by rw [List.flatten_cons, ← h2], hx, hl, h3⟩
theorem exk_more : ∀ (ps : List (List Nd)) (r : Bool) (l : ByteArray), ExK r l ps → Ex (.more ps.length r l) ps.flatten
  | [], r, l, _ => .nil r l
  | p :: ps, r, l, h => by
    obtain ⟨x, xs, rfl, _, _⟩ := ex_ne h.1
    exact .cons _ r l x xs _ h.2.1 h.1 (exk_more ps r _ h.2.2)
theorem skP_one {b : Bool} {p : List Nd} (h : Ex (.one b) p) (rest : List Nd) : skP (p ++ rest) 1 0 = some p.length := by
  have hb := bGo_of_ex h [] rest (2 * p.length) (by simp)
  simp only [List.nil_append, List.length_nil, Nat.zero_add] at hb
  have := skP_bGo (p ++ rest) _ _ _ _ hb 0 (Int.le_refl _)
  simp only [List.drop_zero, Int.add_zero] at this
  rw [this, skP_done]
theorem kids_flat : ∀ (ps : List (List Nd)) (r : Bool) (l : ByteArray), ExK r l ps → ∀ k, ps.flatten.length ≤ k → kidsGo k ps.flatten = ps
  | [], r, l, _, k, _ => by cases k <;> rfl
  | p :: ps, r, l, h, k, hk => by
    obtain ⟨x, xs, rfl, _, _⟩ := ex_ne h.1
    rw [List.flatten_cons, List.length_append, List.length_cons] at hk
    match k, hk with
    | 0, hk => omega
    | k + 1, hk =>
      have hs := skP_one h.1 ps.flatten
      rw [List.flatten_cons]
      rw [List.cons_append] at hs ⊢
      rw [kidsGo, hs]
      simp only
      rw [← List.cons_append, List.take_left, List.drop_left, kids_flat ps r _ h.2.2 k (by omega)]
theorem exk_all : ∀ {ps : List (List Nd)} {r : Bool} {l : ByteArray}, ExK r l ps → ∀ p ∈ ps, Ex (.one r) p
  | p :: ps, r, l, h, q, hq => by
    rcases List.mem_cons.1 hq with rfl | hq
    · exact h.1
    · exact exk_all h.2.2 q hq
theorem exk_false : ∀ {ps : List (List Nd)} {l : ByteArray}, (∀ p ∈ ps, Ex (.one false) p) → ExK false l ps
  | [], _, _ => trivial
  | p :: ps, l, h => ⟨h p (by simp), by simp, exk_false fun q hq => h q (by simp [hq])⟩
theorem late_lt (l s : ByteArray) : sLate l s = false ↔ l.toList < s.toList := by
  unfold sLate
  rw [bytesLess_eq]
  constructor
  · intro h
    simp only [Bool.or_eq_false_iff, decide_eq_false_iff_not, beq_eq_false_iff_ne] at h
    by_cases h1 : l.toList < s.toList
    · exact h1
    · rcases le_cases (List.not_lt.1 h1) with h2 | h2
      · exact absurd h2 h.1
      · exact absurd h2 h.2
  · intro h
    simp only [Bool.or_eq_false_iff, decide_eq_false_iff_not, beq_eq_false_iff_ne]
    exact ⟨List.lt_asymm h, fun e => List.lt_irrefl _ (e ▸ h)⟩
def namesOf (ps : List (List Nd)) : List (List UInt8) := ps.map fun p => (headS p).toList
theorem exk_pw : ∀ {ps : List (List Nd)} {l : ByteArray}, ExK true l ps → (namesOf ps).Pairwise (· < ·) ∧ ∀ s ∈ namesOf ps, l.toList < s
  | [], l, _ => ⟨List.Pairwise.nil, by simp [namesOf]⟩
  | p :: ps, l, h => by
    have h2 := (late_lt _ _).1 (h.2.1 rfl)
    have ih := exk_pw (l := headS p) (by simpa using h.2.2)
    refine ⟨List.Pairwise.cons ih.2 ih.1, ?_⟩
    intro s hs
    rcases List.mem_cons.1 hs with rfl | hs
    · exact h2
    · exact List.lt_trans h2 (ih.2 s hs)
theorem exk_of_pw : ∀ {ps : List (List Nd)} {l : ByteArray}, (∀ p ∈ ps, Ex (.one true) p) → (namesOf ps).Pairwise (· < ·) → (∀ s ∈ namesOf ps, l.toList < s) → ExK true l ps
  | [], _, _, _, _ => trivial
  | p :: ps, l, h, hp, hl => by
    have hp' := List.pairwise_cons.1 hp
    exact ⟨h p (by simp), fun _ => (late_lt _ _).2 (hl _ (by simp [namesOf])), exk_of_pw (fun q hq => h q (by simp [hq])) hp'.2 hp'.1⟩
/-- The pieces, by their names. -/
def sortN (ps : List (List Nd)) : List (List Nd) := ps.mergeSort fun a b => decide ((headS a).toList ≤ (headS b).toList)
theorem sortN_perm (ps : List (List Nd)) : (sortN ps).Perm ps := List.mergeSort_perm _ _
theorem sortN_pw {ps : List (List Nd)} (h : (namesOf ps).Nodup) : (namesOf (sortN ps)).Pairwise (· < ·) := by
  have h1 : (sortN ps).Pairwise fun a b => decide ((headS a).toList ≤ (headS b).toList) = true := List.pairwise_mergeSort
    (by intro a b c h1 h2; simp only [decide_eq_true_eq] at h1 h2 ⊢; exact List.le_trans h1 h2)
    (by intro a b; simp only [Bool.or_eq_true, decide_eq_true_eq]; exact List.le_total _ _) _
  have h2 : (namesOf (sortN ps)).Nodup := ((sortN_perm ps).map _).nodup_iff.2 h
  unfold namesOf at h2 ⊢
  rw [List.pairwise_map]
  rw [List.Nodup, List.pairwise_map] at h2
  refine (h1.and h2).imp ?_
  rintro a b ⟨h3, h4⟩
  simp only [decide_eq_true_eq] at h3
  rcases le_cases h3 with h | h
  · exact h
  · exact absurd h h4
/-- What rises by its names is told by what it has. -/
theorem rise_eq : ∀ {ps qs : List (List Nd)}, (namesOf ps).Pairwise (· < ·) → (namesOf qs).Pairwise (· < ·) → ps.Perm qs → ps = qs
  | [], qs, _, _, h => (List.Perm.nil_eq h)
  | p :: ps, [], _, _, h => absurd h.symm (fun h => by have := List.Perm.nil_eq h; cases this)
  | p :: ps, q :: qs, hp, hq, h => by
    have hp' := List.pairwise_cons.1 hp
    have hq' := List.pairwise_cons.1 hq
    have e : p = q := by
      rcases List.mem_cons.1 (h.mem_iff.1 (List.mem_cons_self)) with e | h1
      · exact e
      · rcases List.mem_cons.1 (h.mem_iff.2 (List.mem_cons_self (a := q))) with e | h2
        · exact e.symm
        · have a1 := hp'.1 _ (List.mem_map_of_mem (f := fun p => (headS p).toList) h2)
          have a2 := hq'.1 _ (List.mem_map_of_mem (f := fun p => (headS p).toList) h1)
          exact absurd (List.lt_trans a1 a2) (List.lt_irrefl _)
    subst e
    rw [rise_eq hp'.2 hq'.2 (List.Perm.cons_inv h)]
theorem sortN_eq {ps qs : List (List Nd)} (h : ps.Perm qs) (hn : (namesOf ps).Nodup) : sortN ps = sortN qs :=
  rise_eq (sortN_pw hn) (sortN_pw ((h.map _).nodup_iff.1 hn)) ((sortN_perm ps).trans (h.trans (sortN_perm qs).symm))

/-! Other names. -/
structure Mv where
  what : Int
  fr : ByteArray
  to_ : ByteArray
def mvErr (m : Mv) : Int := if m.what ≠ 1 ∧ m.what ≠ 2 then 1 else if nameErr m.fr.toList ≠ 0 then nameErr m.fr.toList else nameErr m.to_.toList
def looksB (m : Mv) (x : Nd) : Bool := if x.op = 7 ∨ x.op = 21 ∨ x.op = 22 then m.what == 1 else if x.op = 4 ∨ x.op = 24 then m.what == 2 else false
def ren (m : Mv) (x : Nd) : Nd := if looksB m x = true ∧ x.s.toList = m.fr.toList then ⟨x.op, x.n, m.to_, x.t⟩ else x
theorem ren_op (m : Mv) (x : Nd) : (ren m x).op = x.op ∧ (ren m x).n = x.n ∧ (ren m x).t = x.t := by unfold ren; split <;> exact ⟨rfl, rfl, rfl⟩
theorem looks_ren (m n : Mv) (x : Nd) : looksB n (ren m x) = looksB n x := by unfold looksB; rw [(ren_op m x).1]
theorem ren_s (m : Mv) (x : Nd) : (ren m x).s = if looksB m x = true ∧ x.s.toList = m.fr.toList then m.to_ else x.s := by unfold ren; split <;> rfl
theorem mv_ok {m : Mv} (h : mvErr m = 0) : (m.what = 1 ∨ m.what = 2) ∧ nameErr m.fr.toList = 0 ∧ nameErr m.to_.toList = 0 := by
  unfold mvErr at h
  split at h
  · cases h
  · rename_i h1
    split at h
    · rename_i h2; exact absurd h h2
    · rename_i h2
      exact ⟨by omega, by simpa using h2, h⟩
theorem val_ent {x : Nd} (h : x.op = 4) : (valErr [x] == 0) = shapedV x := by
  unfold valErr
  rw [if_neg (by simp)]
  cases hs : shapedV x
  · simp [vGo, hs]
  · simp [vGo, hs, h]
theorem ren_parts (m : Mv) (x : Nd) : ndParts (ren m x) = ndParts x := by unfold ndParts; rw [(ren_op m x).1, (ren_op m x).2.1]
theorem ren_shaped {m : Mv} (hm : mvErr m = 0) {x : Nd} (h : shapedT x = true) : shapedT (ren m x) = true := by
  unfold ren
  split
  · rename_i hc
    have hl := hc.1
    have ht := (mv_ok hm).2.2
    unfold looksB at hl
    split at hl
    · rename_i ho
      unfold shapedT at h ⊢
      have e1 : ¬ (x.op = 1 ∨ x.op = 2 ∨ x.op = 3 ∨ x.op = 4) := by omega
      have e2 : ¬ (x.op = 5 ∨ x.op = 6) := by omega
      have e3 : ¬ x.op = 8 := by omega
      have e4 : x.op = 7 ∨ x.op = 21 ∨ x.op = 22 ∨ x.op = 24 := by omega
      rw [if_neg e1, if_neg e2, if_neg e3, if_pos e4] at h ⊢
      simp only [Bool.and_eq_true] at h ⊢
      exact ⟨h.1, by rw [ht]; rfl⟩
    · split at hl
      · rename_i ho
        rcases ho with ho | ho
        · unfold shapedT at h ⊢
          have e1 : x.op = 1 ∨ x.op = 2 ∨ x.op = 3 ∨ x.op = 4 := by omega
          rw [if_pos e1] at h ⊢
          rw [val_ent ho] at h
          rw [val_ent (by exact ho)]
          unfold shapedV at h ⊢
          simp only [ho] at h ⊢
          simp at h ⊢
          exact ⟨⟨h.1.1, ht⟩, h.2⟩
        · unfold shapedT at h ⊢
          have e1 : ¬ (x.op = 1 ∨ x.op = 2 ∨ x.op = 3 ∨ x.op = 4) := by omega
          have e2 : ¬ (x.op = 5 ∨ x.op = 6) := by omega
          have e3 : ¬ x.op = 8 := by omega
          have e4 : x.op = 7 ∨ x.op = 21 ∨ x.op = 22 ∨ x.op = 24 := by omega
          rw [if_neg e1, if_neg e2, if_neg e3, if_pos e4] at h ⊢
          simp only [Bool.and_eq_true] at h ⊢
          exact ⟨h.1, by rw [ht]; rfl⟩
      · cases hl
  · exact h
/-- The new name is nowhere. -/
def freshB (m : Mv) (e : List Nd) : Bool := !e.any fun x => looksB m x && x.s.toList == m.to_.toList
theorem fresh_iff {m : Mv} {e : List Nd} : freshB m e = true ↔ ∀ x ∈ e, looksB m x = true → x.s.toList ≠ m.to_.toList := by
  unfold freshB
  simp [List.any_eq_false]

def allSome {α : Type} : List (Option α) → Option (List α)
  | [] => some []
  | none :: _ => none
  | some a :: r => match allSome r with | none => none | some l => some (a :: l)
theorem allSome_map {α : Type} : ∀ (l : List α), allSome (l.map some) = some l
  | [] => rfl
  | a :: r => by rw [List.map_cons, allSome, allSome_map r]
def ndsLe (a b : List Nd) : Bool := decide (ndsCmp a b ≤ 0)
def dedupA : List Nd → List (List Nd) → List (List Nd)
  | _, [] => []
  | a, b :: r => if ndsCmp a b = 0 then dedupA a r else b :: dedupA b r
def dedupP : List (List Nd) → List (List Nd)
  | [] => []
  | a :: r => a :: dedupA a r
/-- The values of a set, in order, each once. -/
def setParts (ps : List (List Nd)) : List (List Nd) := dedupP (ps.mergeSort ndsLe)
def setNodes (ps : List (List Nd)) : List Nd := ⟨5, (setParts ps).length, ⟨#[]⟩, ⟨#[]⟩⟩ :: (setParts ps).flatten
def valsErr : List (List Nd) → Int
  | [] => 0
  | v :: r => if valErr v ≠ 0 then valErr v else valsErr r
def setOfP (ps : List (List Nd)) : List Nd × Int := if valsErr ps ≠ 0 then ([], valsErr ps) else if 200 < (setNodes ps).length then ([], 4) else (setNodes ps, 0)
/-- An expression, or a value, with other names; none: a name twice. -/
def movGo (m : Mv) (vals : Bool) : Nat → List Nd → Option (List Nd)
  | 0, _ => none
  | _ + 1, [] => none
  | k + 1, x :: body =>
    match allSome ((kidsGo body.length body).map (movGo m vals k)) with
    | none => none
    | some ps => if x.op = 6 then (if (namesOf ps).Nodup then some (ren m x :: (sortN ps).flatten) else none)
      else if x.op = 5 ∧ vals = true then some (setOfP ps).1 else some (ren m x :: ps.flatten)
theorem movGo_step (m : Mv) (vals : Bool) (k : Nat) (x : Nd) {r : Bool} {l : ByteArray} {ps : List (List Nd)} (h : ExK r l ps) : movGo m vals (k + 1) (x :: ps.flatten) =
    match allSome (ps.map (movGo m vals k)) with
    | none => none
    | some qs => if x.op = 6 then (if (namesOf qs).Nodup then some (ren m x :: (sortN qs).flatten) else none)
      else if x.op = 5 ∧ vals = true then some (setOfP qs).1 else some (ren m x :: qs.flatten) := by
  rw [movGo, kids_flat ps r l h _ (Nat.le_refl _)]
theorem headS_cons (x : Nd) (l : List Nd) : headS (x :: l) = x.s := rfl
/-- Names in their place, renamed: each once still. -/
theorem ren_nodup {m : Mv} {ps qs : List (List Nd)} (h1 : qs.map List.head? = ps.map fun p => p.head?.map (ren m)) (hp : ∀ p ∈ ps, ∃ x xs, p = x :: xs ∧ x.op = 7) (hf : ∀ p ∈ ps, ∀ x ∈ p, looksB m x = true → x.s.toList ≠ m.to_.toList)
    (hn : (namesOf ps).Nodup) : (namesOf qs).Nodup := by
  have e : namesOf qs = ps.map fun p => if m.what = 1 ∧ (headS p).toList = m.fr.toList then m.to_.toList else (headS p).toList := by
    have e1 : namesOf qs = (qs.map List.head?).map fun h => ((h.map Nd.s).getD ⟨#[]⟩).toList := by unfold namesOf headS; rw [List.map_map]; rfl
    rw [e1, h1, List.map_map]
    refine List.map_congr_left fun p hp' => ?_
    obtain ⟨x, xs, rfl, h7⟩ := hp p hp'
    show (ren m x).s.toList = _
    rw [ren_s, headS_cons]
    have hl : looksB m x = (m.what == 1) := by unfold looksB; rw [if_pos (.inl h7)]
    rw [hl]
    by_cases hw : m.what = 1
    · by_cases hs : x.s.toList = m.fr.toList
      · rw [if_pos ⟨by simp [hw], hs⟩, if_pos ⟨hw, hs⟩]
      · rw [if_neg (fun h => hs h.2), if_neg (fun h => hs h.2)]
    · rw [if_neg (by simp [hw]), if_neg (fun h => hw h.1)]
  rw [e]
  unfold namesOf at hn
  rw [List.Nodup, List.pairwise_map] at hn ⊢
  refine List.Pairwise.imp_of_mem ?_ hn
  intro a b ha hb hab
  have hto : ∀ p ∈ ps, m.what = 1 → (headS p).toList ≠ m.to_.toList := by
    intro p hp' hw
    obtain ⟨x, xs, rfl, h7⟩ := hp p hp'
    exact hf _ hp' x (by simp) (by unfold looksB; rw [if_pos (.inl h7)]; simp [hw])
  split
  · rename_i h3
    split
    · rename_i h4; exact absurd (h3.2.trans h4.2.symm) hab
    · exact fun e => hto b hb h3.1 e.symm
  · split
    · rename_i h4; exact hto a ha h4.1
    · exact hab
theorem nm_ne {s : List UInt8} (h : nameErr s = 0) : ([] : List UInt8) < s := by
  cases s with
  | nil => simp [nameErr] at h
  | cons a l => exact List.nil_lt_cons a l
theorem fld_name {x : Nd} (h : shapedT x = true) (h7 : x.op = 7) : nameErr x.s.toList = 0 := by
  unfold shapedT at h
  rw [if_neg (by omega), if_neg (by omega), if_neg (by omega), if_pos (by omega)] at h
  simp only [Bool.and_eq_true, beq_iff_eq] at h
  exact h.2
/-- Renamed, an expression in which the new name is nowhere is one. -/
theorem mov_ex {m : Mv} (hm : mvErr m = 0) {t : BTag} {xs : List Nd} (h : Ex t xs) (hf : ∀ x ∈ xs, looksB m x = true → x.s.toList ≠ m.to_.toList) :
    match t with
    | .one fld => ∀ k, xs.length ≤ k → ∃ ys, movGo m false k xs = some ys ∧ Ex (.one fld) ys ∧ ys.head? = xs.head?.map (ren m) ∧ ys.Perm (xs.map (ren m))
    | .more c r l => ∃ ps : List (List Nd), ps.length = c ∧ xs = ps.flatten ∧ ExK r l ps ∧ ∀ k, xs.length ≤ k → ∃ qs, allSome (ps.map (movGo m false k)) = some qs ∧ qs.length = c ∧ (∀ q ∈ qs, Ex (.one r) q) ∧
        (qs.map List.head? = ps.map fun p => p.head?.map (ren m)) ∧ qs.flatten.Perm (xs.map (ren m)) := by
  induction h with
  | one n body fld hs h7 hb ih =>
    obtain ⟨ps, hc, rfl, hk, hq⟩ := ih (fun x hx => hf x (by simp [hx]))
    intro k hk'
    match k, hk' with
    | k + 1, hk' =>
      obtain ⟨qs, h1, h2, h3, h4, h5⟩ := hq k (by simpa using hk')
      rw [movGo_step m false k n hk, h1]
      simp only
      have hop := ren_op m n
      by_cases h6 : n.op = 6
      · rw [h6] at hk h3
        have hk6 : ExK true ⟨#[]⟩ ps := hk
        have h36 : ∀ q ∈ qs, Ex (.one true) q := h3
        have hpw := exk_pw hk6
        have hpf : ∀ p ∈ ps, ∃ x xs, p = x :: xs ∧ x.op = 7 := fun p hp => by
          obtain ⟨x, xs, e, _, h⟩ := ex_ne (exk_all hk6 p hp)
          exact ⟨x, xs, e, by simpa using h⟩
        have hnd : (namesOf qs).Nodup := ren_nodup h4 hpf (fun p hp x hx => hf x (by simp; exact .inr ⟨p, hp, hx⟩)) (hpw.1.imp fun h e => by rw [e] at h; exact List.lt_irrefl _ h)
        rw [if_pos h6, if_pos hnd]
        have hex : ExK true ⟨#[]⟩ (sortN qs) := by
          refine exk_of_pw (fun q hq => h36 q ((sortN_perm qs).mem_iff.1 hq)) (sortN_pw hnd) ?_
          intro s hs'
          obtain ⟨q, hq, rfl⟩ := List.mem_map.1 hs'
          obtain ⟨x, xs, rfl, hsx, hx7⟩ := ex_ne (h36 q ((sortN_perm qs).mem_iff.1 hq))
          rw [show (⟨#[]⟩ : ByteArray).toList = [] from by rw [ByteArray.toList_eq]]
          exact nm_ne (fld_name hsx (by simpa using hx7))
        have hlen : (sortN qs).length = ps.length := by rw [(sortN_perm qs).length_eq, h2, hc]
        refine ⟨_, rfl, .one _ _ fld (ren_shaped hm hs) (by rw [hop.1]; exact h7) ?_, rfl, ?_⟩
        · have := exk_more _ _ _ hex
          rw [ren_parts, hop.1, ← hc, ← hlen, h6]; exact this
        · rw [List.map_cons]
          exact List.Perm.cons _ ((List.Perm.flatten (sortN_perm qs)).trans h5)
      · rw [if_neg h6, if_neg (by simp)]
        have e6 : (n.op == 6) = false := by simpa using h6
        rw [e6] at hk h3
        have hex : ExK false ⟨#[]⟩ qs := exk_false h3
        refine ⟨_, rfl, .one _ _ fld (ren_shaped hm hs) (by rw [hop.1]; exact h7) ?_, rfl, ?_⟩
        · have := exk_more _ _ _ hex
          rw [ren_parts, hop.1, e6, ← h2]; exact this
        · rw [List.map_cons]
          exact List.Perm.cons _ h5
  | nil r l => exact ⟨[], rfl, rfl, trivial, fun k _ => ⟨[], rfl, rfl, by simp, rfl, by simp⟩⟩
  | cons c r l x xs ys hl hx hy ih1 ih2 =>
    have ih1' := ih1 (fun y hy' => hf y (by simp at hy' ⊢; rcases hy' with h | h; exact .inl h; exact .inr (.inl h)))
    obtain ⟨ps, h1, h2, h3, h4⟩ := ih2 (fun y hy' => hf y (by simp; exact .inr (.inr hy')))
    refine ⟨(x :: xs) :: ps, by simp [h1], by rw [List.flatten_cons, ← h2], ⟨hx, hl, h3⟩, ?_⟩
    intro k hk
    rw [List.length_append] at hk
    obtain ⟨zs, a1, a2, a3, a4⟩ := ih1' k (by omega)
    obtain ⟨qs, b1, b2, b3, b4, b5⟩ := h4 k (by omega)
    refine ⟨zs :: qs, by rw [List.map_cons, a1, allSome, b1], by simp [b2], ?_, by rw [List.map_cons, List.map_cons, a3, b4], ?_⟩
    · intro q hq
      rcases List.mem_cons.1 hq with rfl | hq
      · exact a2
      · exact b3 q hq
    · rw [List.flatten_cons, List.map_append]
      exact a4.append b5
def movE (m : Mv) (e : List Nd) : Option (List Nd) := movGo m false e.length e
end Go.Proofs.YtnhcjpmamgdeoaaGreatDoor
namespace Go.Proofs.YtnhcjpmamgdeoaaGreatDoor
open Go.RowKit

theorem kids_any : ∀ (ps : List (List Nd)), (∀ p ∈ ps, ∃ b, Ex (.one b) p) → ∀ k, ps.flatten.length ≤ k → kidsGo k ps.flatten = ps
  | [], _, k, _ => by cases k <;> rfl
  | p :: ps, h, k, hk => by
    obtain ⟨b, hb⟩ := h p (by simp)
    obtain ⟨x, xs, rfl, _, _⟩ := ex_ne hb
    rw [List.flatten_cons, List.length_append, List.length_cons] at hk
    match k, hk with
    | 0, hk => omega
    | k + 1, hk =>
      have hs := skP_one hb ps.flatten
      rw [List.flatten_cons]
      rw [List.cons_append] at hs ⊢
      rw [kidsGo, hs]
      simp only
      rw [← List.cons_append, List.take_left, List.drop_left, kids_any ps (fun q hq => h q (by simp [hq])) k (by omega)]
theorem movGo_any (m : Mv) (vals : Bool) (k : Nat) (x : Nd) {ps : List (List Nd)} (h : ∀ p ∈ ps, ∃ b, Ex (.one b) p) : movGo m vals (k + 1) (x :: ps.flatten) =
    match allSome (ps.map (movGo m vals k)) with
    | none => none
    | some qs => if x.op = 6 then (if (namesOf qs).Nodup then some (ren m x :: (sortN qs).flatten) else none)
      else if x.op = 5 ∧ vals = true then some (setOfP qs).1 else some (ren m x :: qs.flatten) := by
  rw [movGo, kids_any ps h _ (Nat.le_refl _)]
  try rfl
theorem allSome_of {α β : Type} [Inhabited β] (f : α → Option β) : ∀ (ps : List α), (∀ p ∈ ps, ∃ y, f p = some y) → allSome (ps.map f) = some (ps.map fun p => (f p).getD default)
  | [], _ => rfl
  | p :: ps, h => by
    obtain ⟨y, hy⟩ := h p (by simp)
    rw [List.map_cons, hy, allSome, allSome_of f ps (fun q hq => h q (by simp [hq])), List.map_cons, hy]; rfl
/-- Two moves that have nothing in common. -/
def ApartM (m n : Mv) : Prop := m.what = n.what → m.fr.toList ≠ n.fr.toList ∧ m.to_.toList ≠ n.to_.toList ∧ m.fr.toList ≠ n.to_.toList ∧ m.to_.toList ≠ n.fr.toList
theorem looks_what {m n : Mv} {x : Nd} (h1 : looksB m x = true) (h2 : looksB n x = true) : m.what = n.what := by
  unfold looksB at h1 h2
  split at h1
  · rename_i h
    rw [if_pos h] at h2
    rw [beq_iff_eq] at h1 h2; rw [h1, h2]
  · rename_i h
    rw [if_neg h] at h2
    split at h1
    · rename_i h'
      rw [if_pos h'] at h2
      rw [beq_iff_eq] at h1 h2; rw [h1, h2]
    · cases h1
theorem ren_comm {m n : Mv} (h : ApartM m n) (x : Nd) : ren n (ren m x) = ren m (ren n x) := by
  by_cases hm : looksB m x = true ∧ x.s.toList = m.fr.toList
  · have e1 : ren m x = ⟨x.op, x.n, m.to_, x.t⟩ := by unfold ren; rw [if_pos hm]
    have hn : ren n x = x := by
      unfold ren
      rw [if_neg]
      rintro ⟨h1, h2⟩
      exact (h (looks_what hm.1 h1)).1 (hm.2.symm.trans h2)
    rw [hn, e1]
    unfold ren
    rw [if_neg]
    rintro ⟨h1, h2⟩
    have h1' : looksB n x = true := h1
    exact (h (looks_what hm.1 h1')).2.2.2 h2
  · have e1 : ren m x = x := by unfold ren; rw [if_neg hm]
    rw [e1]
    by_cases hn : looksB n x = true ∧ x.s.toList = n.fr.toList
    · have e2 : ren n x = ⟨x.op, x.n, n.to_, x.t⟩ := by unfold ren; rw [if_pos hn]
      rw [e2]
      unfold ren
      rw [if_neg]
      rintro ⟨h1, h2⟩
      have h1' : looksB m x = true := h1
      exact (h (looks_what h1' hn.1)).2.2.1 h2.symm
    · have e2 : ren n x = x := by unfold ren; rw [if_neg hn]
      rw [e2, e1]
theorem fresh_mov {m n : Mv} (h : ApartM m n) {xs ys : List Nd} (hp : ys.Perm (xs.map (ren m))) (hf : ∀ x ∈ xs, looksB n x = true → x.s.toList ≠ n.to_.toList) : ∀ y ∈ ys, looksB n y = true → y.s.toList ≠ n.to_.toList := by
  intro y hy hl
  obtain ⟨x, hx, rfl⟩ := List.mem_map.1 (hp.mem_iff.1 hy)
  rw [looks_ren] at hl
  rw [ren_s]
  split
  · rename_i hc
    exact (h (looks_what hc.1 hl)).2.1
  · exact hf x hx hl
/-- Two moves, in either order. -/
theorem apart_go {m n : Mv} (hm : mvErr m = 0) (hn : mvErr n = 0) (ha : ApartM m n) (hb : ApartM n m) : ∀ (N : Nat) (xs : List Nd) (b : Bool), xs.length ≤ N → Ex (.one b) xs →
    (∀ x ∈ xs, looksB m x = true → x.s.toList ≠ m.to_.toList) → (∀ x ∈ xs, looksB n x = true → x.s.toList ≠ n.to_.toList) →
    ∀ k ys zs, xs.length ≤ k → movGo m false k xs = some ys → movGo n false k xs = some zs → movGo n false k ys = movGo m false k zs
  | 0, xs, b, hN, hx, _, _ => by
    obtain ⟨x, r, rfl, _, _⟩ := ex_ne hx
    simp at hN
  | N + 1, xs, b, hN, hx, hfm, hfn => by
    intro k ys zs hk h1 h2
    cases hx with
    | one x body _ hs h7 hbd =>
      obtain ⟨ps, hc, rfl, hK⟩ := ex_pieces hbd
      match k, hk with
      | k + 1, hk =>
        have hk' : ps.flatten.length ≤ k := by simpa using hk
        have hall := exk_all hK
        have hlen : ∀ p ∈ ps, p.length ≤ ps.flatten.length := fun p hp => by
          obtain ⟨l1, l2, rfl⟩ := List.append_of_mem hp
          simp; omega
        have hmf : ∀ p ∈ ps, ∀ y ∈ p, y ∈ x :: ps.flatten := fun p hp y hy => by simp; exact .inr ⟨p, hp, hy⟩
        have gm : ∀ p ∈ ps, ∃ y, movGo m false k p = some y ∧ Ex (.one (x.op == 6)) y ∧ y.Perm (p.map (ren m)) := fun p hp => by
          obtain ⟨y, a1, a2, _, a4⟩ := mov_ex hm (hall p hp) (fun y hy => hfm y (hmf p hp y hy)) k (Nat.le_trans (hlen p hp) hk')
          exact ⟨y, a1, a2, a4⟩
        have gn : ∀ p ∈ ps, ∃ y, movGo n false k p = some y ∧ Ex (.one (x.op == 6)) y ∧ y.Perm (p.map (ren n)) := fun p hp => by
          obtain ⟨y, a1, a2, _, a4⟩ := mov_ex hn (hall p hp) (fun y hy => hfn y (hmf p hp y hy)) k (Nat.le_trans (hlen p hp) hk')
          exact ⟨y, a1, a2, a4⟩
        have em := allSome_of (movGo m false k) ps (fun p hp => by obtain ⟨y, h, _⟩ := gm p hp; exact ⟨y, h⟩)
        have en := allSome_of (movGo n false k) ps (fun p hp => by obtain ⟨y, h, _⟩ := gn p hp; exact ⟨y, h⟩)
        generalize hF : (fun p => (movGo m false k p).getD default) = F at em
        generalize hG : (fun p => (movGo n false k p).getD default) = G at en
        have fm : ∀ p ∈ ps, movGo m false k p = some (F p) ∧ Ex (.one (x.op == 6)) (F p) ∧ (F p).Perm (p.map (ren m)) := fun p hp => by
          obtain ⟨y, h, h'⟩ := gm p hp
          have : F p = y := by rw [← hF]; simp [h]
          rw [this]; exact ⟨h, h'⟩
        have fn : ∀ p ∈ ps, movGo n false k p = some (G p) ∧ Ex (.one (x.op == 6)) (G p) ∧ (G p).Perm (p.map (ren n)) := fun p hp => by
          obtain ⟨y, h, h'⟩ := gn p hp
          have : G p = y := by rw [← hG]; simp [h]
          rw [this]; exact ⟨h, h'⟩
        have ih : ∀ p ∈ ps, movGo n false k (F p) = movGo m false k (G p) := fun p hp =>
          apart_go hm hn ha hb N p _ (by have := hlen p hp; have hN' : ps.flatten.length + 1 ≤ N + 1 := hN; omega) (hall p hp) (fun y hy => hfm y (hmf p hp y hy)) (fun y hy => hfn y (hmf p hp y hy)) k _ _ (Nat.le_trans (hlen p hp) hk') (fm p hp).1 (fn p hp).1
        have gnF : ∀ q ∈ ps.map F, ∃ y, movGo n false k q = some y := by
          intro q hq
          obtain ⟨p, hp, rfl⟩ := List.mem_map.1 hq
          have hl : (F p).length ≤ k := by rw [(fm p hp).2.2.length_eq, List.length_map]; exact Nat.le_trans (hlen p hp) hk'
          obtain ⟨y, a1, _⟩ := mov_ex hn (fm p hp).2.1 (fresh_mov ha (fm p hp).2.2 (fun y hy => hfn y (hmf p hp y hy))) k hl
          exact ⟨y, a1⟩
        have gmG : ∀ q ∈ ps.map G, ∃ y, movGo m false k q = some y := by
          intro q hq
          obtain ⟨p, hp, rfl⟩ := List.mem_map.1 hq
          have hl : (G p).length ≤ k := by rw [(fn p hp).2.2.length_eq, List.length_map]; exact Nat.le_trans (hlen p hp) hk'
          obtain ⟨y, a1, _⟩ := mov_ex hm (fn p hp).2.1 (fresh_mov hb (fn p hp).2.2 (fun y hy => hfm y (hmf p hp y hy))) k hl
          exact ⟨y, a1⟩
        have hcomp : (ps.map F).map (fun q => (movGo n false k q).getD default) = (ps.map G).map (fun q => (movGo m false k q).getD default) := by
          rw [List.map_map, List.map_map]
          refine List.map_congr_left fun p hp => ?_
          show (movGo n false k (F p)).getD default = (movGo m false k (G p)).getD default
          rw [ih p hp]
        have exF : ∀ q ∈ ps.map F, ∃ b, Ex (.one b) q := fun q hq => by
          obtain ⟨p, hp, rfl⟩ := List.mem_map.1 hq; exact ⟨_, (fm p hp).2.1⟩
        have exG : ∀ q ∈ ps.map G, ∃ b, Ex (.one b) q := fun q hq => by
          obtain ⟨p, hp, rfl⟩ := List.mem_map.1 hq; exact ⟨_, (fn p hp).2.1⟩
        rw [movGo_step m false k x hK, em] at h1
        rw [movGo_step n false k x hK, en] at h2
        simp only [Bool.false_eq_true, and_false, if_false] at h1 h2
        have hrc := ren_comm ha x
        by_cases h6 : x.op = 6
        · rw [if_pos h6] at h1 h2
          split at h1
          · split at h2
            · injection h1 with h1
              injection h2 with h2
              subst h1 h2
              have p1 : ∀ q ∈ sortN (ps.map F), q ∈ ps.map F := fun q hq => (sortN_perm _).mem_iff.1 hq
              have p2 : ∀ q ∈ sortN (ps.map G), q ∈ ps.map G := fun q hq => (sortN_perm _).mem_iff.1 hq
              rw [movGo_any n false k _ (fun q hq => exF q (p1 q hq)), movGo_any m false k _ (fun q hq => exG q (p2 q hq)),
                allSome_of _ _ (fun q hq => gnF q (p1 q hq)), allSome_of _ _ (fun q hq => gmG q (p2 q hq))]
              simp only [(ren_op m x).1, (ren_op n x).1, h6, if_true]
              have hperm : ((sortN (ps.map F)).map fun q => (movGo n false k q).getD default).Perm ((sortN (ps.map G)).map fun q => (movGo m false k q).getD default) :=
                ((sortN_perm _).map _).trans ((List.Perm.of_eq hcomp).trans ((sortN_perm _).map _).symm)
              have hnn : (namesOf ((sortN (ps.map F)).map fun q => (movGo n false k q).getD default)).Nodup ↔ (namesOf ((sortN (ps.map G)).map fun q => (movGo m false k q).getD default)).Nodup := (hperm.map _).nodup_iff
              by_cases hd : (namesOf ((sortN (ps.map F)).map fun q => (movGo n false k q).getD default)).Nodup
              · rw [if_pos hd, if_pos (hnn.1 hd), hrc, sortN_eq hperm hd]
              · rw [if_neg hd, if_neg (fun h => hd (hnn.2 h))]
            · cases h2
          · cases h1
        · rw [if_neg h6] at h1 h2
          injection h1 with h1
          injection h2 with h2
          subst h1 h2
          rw [movGo_any n false k _ exF, movGo_any m false k _ exG, allSome_of _ _ gnF, allSome_of _ _ gmG]
          simp only [(ren_op m x).1, (ren_op n x).1, h6, if_false, Bool.false_eq_true, and_false]
          rw [hrc, hcomp]
theorem ApartM.symm {m n : Mv} (h : ApartM m n) : ApartM n m := fun e => by
  obtain ⟨a, b, c, d⟩ := h e.symm
  exact ⟨fun h => a h.symm, fun h => b h.symm, fun h => d h.symm, fun h => c h.symm⟩
/-- MoveApart. -/
theorem apart_plain {m n : Mv} {e : List Nd} (hm : mvErr m = 0) (hn : mvErr n = 0) (he : treeErr e = 0) (hfm : freshB m e = true) (hfn : freshB n e = true) (ha : ApartM m n) :
    ∃ x y z, movE m e = some x ∧ treeErr x = 0 ∧ movE n e = some y ∧ treeErr y = 0 ∧ movE n x = some z ∧ movE m y = some z := by
  have h := (tree_iff e).1 he
  have fm := fresh_iff.1 hfm
  have fn := fresh_iff.1 hfn
  obtain ⟨x, a1, a2, _, a4⟩ := mov_ex hm h.2 fm e.length (Nat.le_refl _)
  obtain ⟨y, b1, b2, _, b4⟩ := mov_ex hn h.2 fn e.length (Nat.le_refl _)
  have lx : x.length = e.length := by rw [a4.length_eq, List.length_map]
  have ly : y.length = e.length := by rw [b4.length_eq, List.length_map]
  obtain ⟨z, c1, _⟩ := mov_ex hn a2 (fresh_mov ha a4 fn) e.length (by omega)
  have hc := apart_go hm hn ha ha.symm e.length e false (Nat.le_refl _) h.2 fm fn e.length x y (Nat.le_refl _) a1 b1
  refine ⟨x, y, z, a1, (tree_iff x).2 ⟨by omega, a2⟩, b1, (tree_iff y).2 ⟨by omega, b2⟩, ?_, ?_⟩
  · unfold movE; rw [lx]; exact c1
  · unfold movE; rw [ly, ← hc]; exact c1
end Go.Proofs.YtnhcjpmamgdeoaaGreatDoor
namespace Go.Proofs.YtnhcjpmamgdeoaaGreatDoor
open Go.RowKit Go.Sort

theorem skP_at {b : Bool} {p : List Nd} (h : Ex (.one b) p) (rest : List Nd) (i : Nat) : skP (p ++ rest) 1 i = some (i + p.length) := by
  have hb := bGo_of_ex h (List.replicate i ⟨0, 0, ⟨#[]⟩, ⟨#[]⟩⟩) rest (2 * p.length) (by simp)
  have := skP_bGo _ _ _ _ _ hb 0 (Int.le_refl _)
  rw [List.append_assoc, List.drop_left, List.length_replicate] at this
  simp only [Int.add_zero] at this
  rw [this, skP_done]
theorem swo_names {α : Type} (nm : α → List UInt8) : SWO (ltOf fun x y : α => Lib.compareBytes (nm x) (nm y)) := by
  have hd : ∀ x y : α, ltOf (fun x y : α => Lib.compareBytes (nm x) (nm y)) x y = decide (nm x < nm y) := fun x y => by
    unfold ltOf
    simp only [cmp_neg]
  refine ⟨fun x => ?_, fun x y z h1 h2 => ?_, fun x y z h1 h2 => ?_⟩
  · rw [hd]; simp [List.lt_irrefl]
  · rw [hd] at h1 h2 ⊢
    simp only [decide_eq_true_eq] at h1 h2 ⊢
    exact List.lt_trans h1 h2
  · rw [hd] at h1 h2 ⊢
    simp only [decide_eq_false_iff_not, List.not_lt] at h1 h2 ⊢
    exact List.le_trans h2 h1
/-- In the order of their names. -/
def RiseN (ds : List (List Nd)) : Prop := ∀ (i j : Nat) (a b : List Nd), ds[i]? = some a → ds[j]? = some b → i < j → ¬ (headS b).toList < (headS a).toList
theorem rise_pw {ds : List (List Nd)} (hs : RiseN ds) (ha : ∀ (j : Nat) (a b : List Nd), ds[j]? = some a → ds[j + 1]? = some b → (headS b).toList ≠ (headS a).toList) : (namesOf ds).Pairwise (· < ·) := by
  rw [List.pairwise_iff_getElem]
  intro i j hi hj hij
  unfold namesOf at hi hj ⊢
  rw [List.length_map] at hi hj
  rw [List.getElem_map, List.getElem_map]
  obtain ⟨k, rfl⟩ : ∃ k, j = k + 1 := ⟨j - 1, by omega⟩
  have e1 : ds[k]? = some ds[k] := List.getElem?_eq_getElem (by omega)
  have e2 : ds[k + 1]? = some ds[k + 1] := List.getElem?_eq_getElem hj
  have h1 := List.not_lt.1 (hs k (k + 1) _ _ e1 e2 (by omega))
  have h2 : (headS ds[k]).toList < (headS ds[k + 1]).toList := by
    rcases le_cases h1 with h | h
    · exact h
    · exact absurd h.symm (ha k _ _ e1 e2)
  rcases Nat.lt_or_ge i k with h | h
  · have e3 : ds[i]? = some ds[i] := List.getElem?_eq_getElem hi
    rcases le_cases (List.not_lt.1 (hs i k _ _ e3 e1 h)) with h3 | h3
    · exact List.lt_trans h3 h2
    · rw [h3]; exact h2
  · obtain rfl : i = k := by omega
    exact h2
theorem pw_nodup {ds : List (List Nd)} (h : (namesOf ds).Pairwise (· < ·)) : (namesOf ds).Nodup := h.imp fun h e => by rw [e] at h; exact List.lt_irrefl _ h
theorem rise_done {ds qs : List (List Nd)} (hp : ds.Perm qs) (hs : RiseN ds) (ha : ∀ (j : Nat) (a b : List Nd), ds[j]? = some a → ds[j + 1]? = some b → (headS b).toList ≠ (headS a).toList) : (namesOf qs).Nodup ∧ ds = sortN qs := by
  have h1 := rise_pw hs ha
  have h2 : (namesOf qs).Nodup := (hp.map _).nodup_iff.1 (pw_nodup h1)
  exact ⟨h2, rise_eq h1 (sortN_pw h2) (hp.trans (sortN_perm qs).symm)⟩
theorem rise_twice {ds qs : List (List Nd)} (hp : ds.Perm qs) {j : Nat} {a b : List Nd} (h1 : ds[j]? = some a) (h2 : ds[j + 1]? = some b) (he : (headS b).toList = (headS a).toList) : ¬ (namesOf qs).Nodup := by
  intro h
  have h' : (namesOf ds).Nodup := (hp.map _).nodup_iff.2 h
  unfold namesOf at h'
  rw [List.Nodup, List.pairwise_iff_getElem] at h'
  obtain ⟨k1, e1⟩ := List.getElem?_eq_some_iff.1 h1
  obtain ⟨k2, e2⟩ := List.getElem?_eq_some_iff.1 h2
  refine h' j (j + 1) (by simpa using k1) (by simpa using k2) (by omega) ?_
  rw [List.getElem_map, List.getElem_map, e1, e2, he]
end Go.Proofs.YtnhcjpmamgdeoaaGreatDoor
namespace Go.Proofs.YtnhcjpmamgdeoaaGreatDoor
open Go.RowKit Go.Sort

/-- A comparison that tells an order. -/
structure Cm {α : Type} (c : α → α → Int) : Prop where
  self : ∀ x, c x x = 0
  eq : ∀ x y, c x y = 0 → x = y
  flip : ∀ x y, 0 < c x y ↔ c y x < 0
  trans : ∀ x y z, c x y < 0 → c y z < 0 → c x z < 0
theorem cm_int : Cm cmpI := by
  refine ⟨fun x => ?_, fun x y h => ?_, fun x y => ?_, fun x y z h1 h2 => ?_⟩
  · simp [cmpI]
  · simp only [cmpI] at h; (repeat' split at h) <;> omega
  · simp only [cmpI]; (repeat' split) <;> omega
  · simp only [cmpI] at h1 h2 ⊢; (repeat' split at h1) <;> (repeat' split at h2) <;> (repeat' split) <;> omega
theorem cm_list : Cm Lib.compareBytes := by
  have hs : ∀ x, Lib.compareBytes x x = 0 := fun x => by
    have h1 : ¬ Lib.compareBytes x x < 0 := fun h => List.lt_irrefl _ ((cmp_neg _ _).1 h)
    have h2 : ¬ 0 < Lib.compareBytes x x := fun h => List.lt_irrefl _ ((cmp_pos _ _).1 h)
    omega
  refine ⟨hs, fun x y h => ?_, fun x y => by rw [cmp_pos, cmp_neg], fun x y z h1 h2 => ?_⟩
  · have h1 : ¬ x < y := fun hh => by have := (cmp_neg x y).2 hh; omega
    have h2 : ¬ y < x := fun hh => by have := (cmp_pos x y).2 hh; omega
    rcases le_cases (List.not_lt.1 h2) with h3 | h3
    · exact absurd h3 h1
    · exact h3
  · rw [cmp_neg] at h1 h2 ⊢; exact List.lt_trans h1 h2
theorem Cm.inj {α β : Type} {c : β → β → Int} (h : Cm c) (f : α → β) (hf : ∀ x y, f x = f y → x = y) : Cm fun x y => c (f x) (f y) :=
  ⟨fun x => h.self _, fun x y e => hf _ _ (h.eq _ _ e), fun x y => h.flip _ _, fun x y z => h.trans _ _ _⟩
theorem Cm.lex {α β : Type} {c : α → α → Int} {d : β → β → Int} (hc : Cm c) (hd : Cm d) : Cm fun x y : α × β => if c x.1 y.1 = 0 then d x.2 y.2 else c x.1 y.1 := by
  have hz : ∀ x y, c x y = 0 → c y x = 0 := fun x y h => by rw [hc.eq x y h, hc.self]
  refine ⟨fun x => by simp [hc.self, hd.self], fun x y h => ?_, fun x y => ?_, fun x y z h1 h2 => ?_⟩
  · by_cases h0 : c x.1 y.1 = 0
    · simp only [h0, if_true] at h
      exact Prod.ext (hc.eq _ _ h0) (hd.eq _ _ h)
    · simp only [h0, if_false] at h
  · by_cases h0 : c x.1 y.1 = 0
    · have h1 := hz _ _ h0
      simp only [h0, h1, if_true]
      exact hd.flip _ _
    · have h1 : ¬ c y.1 x.1 = 0 := fun h => h0 (hz _ _ h)
      simp only [h0, h1, if_false]
      exact hc.flip _ _
  · by_cases h0 : c x.1 y.1 = 0
    · simp only [h0, if_true] at h1
      have e := hc.eq _ _ h0
      rw [e]
      by_cases h3 : c y.1 z.1 = 0
      · simp only [h3, if_true] at h2 ⊢
        exact hd.trans _ _ _ h1 h2
      · simp only [h3, if_false] at h2 ⊢
        exact h2
    · simp only [h0, if_false] at h1
      by_cases h3 : c y.1 z.1 = 0
      · have e := hc.eq _ _ h3
        rw [← e]
        simp only [h0, if_false]
        exact h1
      · simp only [h3, if_false] at h2
        have h4 := hc.trans _ _ _ h1 h2
        have h5 : ¬ c x.1 z.1 = 0 := by omega
        simp only [h5, if_false]
        exact h4
theorem bytes_ext {x y : ByteArray} (h : x.data.toList = y.data.toList) : x = y := by
  cases x; cases y; simp at h; rw [h]
theorem cm_nd : Cm ndCmp := by
  have h : ndCmp = fun x y : Nd => if cmpI x.op y.op = 0 then (if cmpI x.n y.n = 0 then (if Lib.compareBytes x.s.data.toList y.s.data.toList = 0 then Lib.compareBytes x.t.data.toList y.t.data.toList else Lib.compareBytes x.s.data.toList y.s.data.toList) else cmpI x.n y.n) else cmpI x.op y.op := by
    funext x y
    unfold ndCmp
    simp only [orI]
    split
    · split
      · split
        · split
          · rename_i h; exact h.symm
          · rfl
        · rfl
      · rfl
    · rfl
  rw [h]
  have hb : Cm fun x y : ByteArray => Lib.compareBytes x.data.toList y.data.toList := cm_list.inj (fun x : ByteArray => x.data.toList) fun _ _ => bytes_ext
  exact (cm_int.lex (cm_int.lex (hb.lex hb))).inj (fun x : Nd => (x.op, x.n, x.s, x.t)) fun x y h => by
    cases x; cases y; simp at h; simp [h]
theorem cm_nds : Cm ndsCmp := by
  have hn := cm_nd
  have hz : ∀ x y, ndCmp x y = 0 → ndCmp y x = 0 := fun x y h => by rw [hn.eq x y h, hn.self]
  refine ⟨fun x => ?_, fun x => ?_, fun x => ?_, fun x => ?_⟩
  · induction x with
    | nil => rfl
    | cons a r ih => simp [ndsCmp, hn.self, ih]
  · induction x with
    | nil => intro y h; cases y with
      | nil => rfl
      | cons b s => simp [ndsCmp] at h
    | cons a r ih =>
      intro y h
      cases y with
      | nil => simp [ndsCmp] at h
      | cons b s =>
        rw [ndsCmp] at h
        split at h
        · rename_i h0; rw [hn.eq _ _ h0, ih s h]
        · rename_i h0; exact absurd h h0
  · induction x with
    | nil => intro y; cases y with
      | nil => simp [ndsCmp]
      | cons b s => simp [ndsCmp]
    | cons a r ih =>
      intro y
      cases y with
      | nil => simp [ndsCmp]
      | cons b s =>
        rw [ndsCmp, ndsCmp]
        by_cases h0 : ndCmp a b = 0
        · rw [if_pos h0, if_pos (hz _ _ h0)]; exact ih s
        · rw [if_neg h0, if_neg (fun h => h0 (hz _ _ h))]; exact hn.flip _ _
  · induction x with
    | nil => intro y z h1 h2; cases y with
      | nil => simp [ndsCmp] at h1
      | cons b s => cases z with
        | nil => simp [ndsCmp] at h2
        | cons d u => simp [ndsCmp]
    | cons a r ih =>
      intro y z h1 h2
      cases y with
      | nil => simp [ndsCmp] at h1
      | cons b s => cases z with
        | nil => simp [ndsCmp] at h2
        | cons d u =>
          rw [ndsCmp] at h1 h2 ⊢
          by_cases h0 : ndCmp a b = 0
          · rw [if_pos h0] at h1
            have e := hn.eq _ _ h0
            rw [e]
            by_cases h3 : ndCmp b d = 0
            · rw [if_pos h3] at h2 ⊢; exact ih _ _ h1 h2
            · rw [if_neg h3] at h2 ⊢; exact h2
          · rw [if_neg h0] at h1
            by_cases h3 : ndCmp b d = 0
            · rw [← hn.eq _ _ h3, if_neg h0]; exact h1
            · rw [if_neg h3] at h2
              have h4 := hn.trans _ _ _ h1 h2
              rw [if_neg (by omega)]; exact h4
theorem Cm.swo {α : Type} {c : α → α → Int} (h : Cm c) : SWO (ltOf c) := by
  refine ⟨fun x => by simp [ltOf, h.self], fun x y z h1 h2 => ?_, fun x y z h1 h2 => ?_⟩
  · simp only [ltOf, decide_eq_true_eq] at h1 h2 ⊢; exact h.trans _ _ _ h1 h2
  · simp only [ltOf, decide_eq_false_iff_not] at h1 h2 ⊢
    intro h3
    have h4 : 0 < c z x := (h.flip _ _).2 h3
    by_cases e1 : c x y = 0
    · rw [h.eq _ _ e1] at h3; exact h2 h3
    · have a1 : c y x < 0 := (h.flip _ _).1 (by omega)
      by_cases e2 : c y z = 0
      · rw [← h.eq _ _ e2] at h3; exact h1 h3
      · have a2 : c z y < 0 := (h.flip _ _).1 (by omega)
        have := h.trans _ _ _ a2 a1
        omega
/-- Two lists that rise, of the same things. -/
theorem pw_eq {α : Type} {R : α → α → Prop} (hi : ∀ x, ¬ R x x) (ht : ∀ x y z, R x y → R y z → R x z) : ∀ {ps qs : List α}, ps.Pairwise R → qs.Pairwise R → ps.Perm qs → ps = qs
  | [], qs, _, _, h => (List.Perm.nil_eq h)
  | p :: ps, [], _, _, h => absurd h.symm (fun h => by have := List.Perm.nil_eq h; cases this)
  | p :: ps, q :: qs, hp, hq, h => by
    have hp' := List.pairwise_cons.1 hp
    have hq' := List.pairwise_cons.1 hq
    have e : p = q := by
      rcases List.mem_cons.1 (h.mem_iff.1 (List.mem_cons_self)) with e | h1
      · exact e
      · rcases List.mem_cons.1 (h.mem_iff.2 (List.mem_cons_self (a := q))) with e | h2
        · exact e.symm
        · exact absurd (ht _ _ _ (hp'.1 _ h2) (hq'.1 _ h1)) (hi _)
    subst e
    rw [pw_eq hi ht hp'.2 hq'.2 (List.Perm.cons_inv h)]
def LtN (a b : List Nd) : Prop := ndsCmp a b < 0
theorem ltN_irrefl (x : List Nd) : ¬ LtN x x := by unfold LtN; rw [cm_nds.self]; omega
theorem ltN_trans (x y z : List Nd) : LtN x y → LtN y z → LtN x z := cm_nds.trans x y z
theorem le_sorted (qs : List (List Nd)) : (qs.mergeSort ndsLe).Pairwise fun a b => ndsCmp a b ≤ 0 := by
  have h := cm_nds.swo
  have h1 : (qs.mergeSort ndsLe).Pairwise fun a b => ndsLe a b = true := List.pairwise_mergeSort
    (by
      intro a b c h1 h2
      simp only [ndsLe, decide_eq_true_eq] at h1 h2 ⊢
      have := h.ntrans c b a
      simp only [ltOf, decide_eq_false_iff_not] at this
      have f1 := cm_nds.flip a b
      have f2 := cm_nds.flip b c
      have f3 := cm_nds.flip a c
      by_cases hh : ndsCmp c a < 0
      · exact absurd hh (this (fun hx => by have := f2.2 hx; omega) (fun hx => by have := f1.2 hx; omega))
      · have : ¬ 0 < ndsCmp a c := fun hx => hh (f3.1 hx)
        omega)
    (by
      intro a b
      simp only [ndsLe, Bool.or_eq_true, decide_eq_true_eq]
      have := cm_nds.flip a b
      by_cases hh : ndsCmp a b ≤ 0
      · exact .inl hh
      · exact .inr (by have := this.1 (by omega); omega)) _
  refine h1.imp fun h => ?_
  simpa [ndsLe] using h
theorem dedup_pw : ∀ (l : List (List Nd)) (a : List Nd), (a :: l).Pairwise (fun a b => ndsCmp a b ≤ 0) → (a :: dedupA a l).Pairwise LtN
  | [], a, _ => by simp [dedupA]
  | b :: r, a, h => by
    have h1 := List.pairwise_cons.1 h
    have h2 := List.pairwise_cons.1 h1.2
    rw [dedupA]
    by_cases h0 : ndsCmp a b = 0
    · rw [if_pos h0]
      exact dedup_pw r a (List.pairwise_cons.2 ⟨fun c hc => h1.1 c (by simp [hc]), h2.2⟩)
    · rw [if_neg h0]
      have ih := dedup_pw r b h1.2
      have hab : LtN a b := by have := h1.1 b (by simp); unfold LtN; omega
      refine List.pairwise_cons.2 ⟨fun c hc => ?_, ih⟩
      rcases List.mem_cons.1 hc with rfl | hc
      · exact hab
      · exact ltN_trans _ _ _ hab ((List.pairwise_cons.1 ih).1 c hc)
theorem setParts_pw (qs : List (List Nd)) : (setParts qs).Pairwise LtN := by
  have h := le_sorted qs
  unfold setParts
  cases hq : qs.mergeSort ndsLe with
  | nil => simp [dedupP]
  | cons a l => rw [hq] at h; exact dedup_pw l a h
theorem dedup_sub : ∀ (l : List (List Nd)) (a : List Nd), (dedupA a l).Sublist l
  | [], a => by simp [dedupA]
  | b :: r, a => by
    rw [dedupA]
    split
    · exact (dedup_sub r a).cons _
    · exact (dedup_sub r b).cons_cons _
theorem dedupP_sub : ∀ (l : List (List Nd)), (dedupP l).Sublist l
  | [] => .slnil
  | a :: l => (dedup_sub l a).cons_cons _
theorem dedup_id : ∀ (l : List (List Nd)) (a : List Nd), (a :: l).Pairwise LtN → dedupA a l = l
  | [], a, _ => rfl
  | b :: r, a, h => by
    have h1 := List.pairwise_cons.1 h
    have : LtN a b := h1.1 b (by simp)
    rw [dedupA, if_neg (by unfold LtN at this; omega), dedup_id r b h1.2]
theorem dedupP_id {l : List (List Nd)} (h : l.Pairwise LtN) : dedupP l = l := by
  cases l with
  | nil => rfl
  | cons a l => rw [dedupP, dedup_id l a h]
theorem sorted_nodup {qs : List (List Nd)} (h : qs.Nodup) : (qs.mergeSort ndsLe).Pairwise LtN := by
  have h2 : (qs.mergeSort ndsLe).Nodup := (List.mergeSort_perm _ _).nodup_iff.2 h
  refine ((le_sorted qs).and h2).imp ?_
  rintro a b ⟨h3, h4⟩
  unfold LtN
  have : ndsCmp a b ≠ 0 := fun e => h4 (cm_nds.eq _ _ e)
  omega
theorem setParts_perm {qs : List (List Nd)} (h : qs.Nodup) : (setParts qs).Perm qs := by
  unfold setParts
  rw [dedupP_id (sorted_nodup h)]
  exact List.mergeSort_perm _ _
theorem ltN_nodup {qs : List (List Nd)} (h : qs.Pairwise LtN) : qs.Nodup := h.imp fun h e => by subst e; exact ltN_irrefl _ h
theorem setParts_of {ps qs : List (List Nd)} (h : qs.Perm ps) (hp : ps.Pairwise LtN) : setParts qs = ps := by
  have hn : qs.Nodup := h.nodup_iff.2 (ltN_nodup hp)
  exact pw_eq ltN_irrefl ltN_trans (setParts_pw qs) hp ((setParts_perm hn).trans h)
end Go.Proofs.YtnhcjpmamgdeoaaGreatDoor
namespace Go.Proofs.YtnhcjpmamgdeoaaGreatDoor
open Go.RowKit Go.Sort

def ChainV : Option (List Nd) → List (List Nd) → Prop
  | _, [] => True
  | l, p :: ps => vLate l p = false ∧ ChainV (some p) ps
def RiseF : ByteArray → List (List Nd) → Prop
  | _, [] => True
  | l, p :: ps => sLate l (headS p) = false ∧ RiseF (headS p) ps
/-- A value. -/
inductive Vx : List Nd → Prop where
  | leaf (n : Nd) : shapedV n = true → ¬ n.op = 5 → ¬ n.op = 6 → ¬ n.op = 7 → Vx [n]
  | set (n : Nd) (ps : List (List Nd)) : shapedV n = true → n.op = 5 → n.n = ps.length → (∀ p ∈ ps, Vx p) → ChainV none ps → Vx (n :: ps.flatten)
  | rcd (n : Nd) (ps : List (List Nd)) : shapedV n = true → n.op = 6 → n.n = ps.length → (∀ p ∈ ps, ∃ f v, p = f :: v) → (∀ f v, f :: v ∈ ps → f.op = 7 ∧ shapedV f = true) → (∀ f v, f :: v ∈ ps → Vx v) → RiseF ⟨#[]⟩ ps → Vx (n :: ps.flatten)
/-- A field of a record, and its value. -/
def Fx (p : List Nd) : Prop := ∃ f v, p = f :: v ∧ f.op = 7 ∧ shapedV f = true ∧ Vx v
theorem Vx.ne {xs : List Nd} (h : Vx xs) : ∃ x r, xs = x :: r ∧ shapedV x = true ∧ ¬ x.op = 7 := by
  cases h with
  | leaf n h h5 h6 h7 => exact ⟨n, [], rfl, h, h7⟩
  | set n ps h h5 => exact ⟨n, _, rfl, h, by omega⟩
  | rcd n ps h h6 => exact ⟨n, _, rfl, h, by omega⟩
theorem Vx.rcd' {n : Nd} {ps : List (List Nd)} (h : shapedV n = true) (h6 : n.op = 6) (hn : n.n = ps.length) (hp : ∀ p ∈ ps, Fx p) (hr : RiseF ⟨#[]⟩ ps) : Vx (n :: ps.flatten) :=
  .rcd n ps h h6 hn (fun p hp' => by obtain ⟨f, v, e, _⟩ := hp p hp'; exact ⟨f, v, e⟩)
    (fun f v hm => by obtain ⟨f', v', e, a, b, _⟩ := hp _ hm; injection e with e1 e2; subst e1; exact ⟨a, b⟩)
    (fun f v hm => by obtain ⟨f', v', e, a, b, c⟩ := hp _ hm; injection e with e1 e2; subst e2; exact c) hr
theorem vx_of_vGo (e : List Nd) : ∀ (f : Nat) (t : VTag) (i j : Nat), vGo e f t i = some j →
    match t with
    | .one => Vx (piece e i j)
    | .set c l => ∃ ps : List (List Nd), ps.length = c ∧ piece e i j = ps.flatten ∧ (∀ p ∈ ps, Vx p) ∧ ChainV l ps
    | .flds c l => ∃ ps : List (List Nd), ps.length = c ∧ piece e i j = ps.flatten ∧ (∀ p ∈ ps, Fx p) ∧ RiseF l ps := by
  intro f
  induction f with
  | zero =>
    intro t i j h
    cases t with
    | one => simp [vGo] at h
    | set c l => simp only [vGo] at h; split at h <;> simp at h; subst h; rename_i hc; subst hc; exact ⟨[], rfl, by rw [piece_self]; rfl, by simp, trivial⟩
    | flds c l => simp only [vGo] at h; split at h <;> simp at h; subst h; rename_i hc; subst hc; exact ⟨[], rfl, by rw [piece_self]; rfl, by simp, trivial⟩
  | succ f ih =>
    intro t i j h
    have hb := vGo_bound e _ _ _ _ h
    cases t with
    | one =>
      have hij := hb.2.2 rfl
      rw [vGo] at h
      split at h
      · cases h
      · rename_i n hn
        split at h
        · cases h
        · rename_i hsh
          have hsh : shapedV n = true := by simpa using hsh
          show Vx (piece e i j)
          rw [piece_cons hn hij]
          split at h
          · rename_i h5
            obtain ⟨ps, h1, h2, h3, h4⟩ := ih _ _ _ h
            rw [h2]
            have h0 : 0 ≤ n.n := by simp [shapedV, h5] at hsh; omega
            exact .set n ps hsh h5 (by omega) h3 h4
          · rename_i h5
            split at h
            · rename_i h6
              obtain ⟨ps, h1, h2, h3, h4⟩ := ih _ _ _ h
              rw [h2]
              have h0 : 0 ≤ n.n := by simp [shapedV, h6] at hsh; omega
              exact .rcd' hsh h6 (by omega) h3 h4
            · rename_i h6
              split at h
              · cases h
              · rename_i h7
                injection h with h
                subst h
                rw [piece_self]
                exact .leaf n hsh h5 h6 h7
    | set c l =>
      cases c with
      | zero => simp only [vGo, Option.some.injEq] at h; subst h; exact ⟨[], rfl, by rw [piece_self]; rfl, by simp, trivial⟩
      | succ c =>
        simp only [vGo] at h
        split at h
        · cases h
        · rename_i k hk
          split at h
          · cases h
          · rename_i hl
            have b1 := vGo_bound e _ _ _ _ hk
            have b2 := vGo_bound e _ _ _ _ h
            have a1 : Vx (piece e i k) := ih _ _ _ hk
            obtain ⟨ps, h1, h2, h3, h4⟩ := ih _ _ _ h
            refine ⟨piece e i k :: ps, by simp [h1], by rw [piece_split e b1.2.1 b2.2.1, h2]; rfl, ?_, by simpa using hl, h4⟩
            intro p hp
            rcases List.mem_cons.1 hp with rfl | hp
            · exact a1
            · exact h3 p hp
    | flds c l =>
      cases c with
      | zero => simp only [vGo, Option.some.injEq] at h; subst h; exact ⟨[], rfl, by rw [piece_self]; rfl, by simp, trivial⟩
      | succ c =>
        simp only [vGo] at h
        split at h
        · cases h
        · rename_i m hm
          split at h
          · cases h
          · rename_i hl
            split at h
            · cases h
            · rename_i k hk
              have b1 := vGo_bound e _ _ _ _ hk
              have b2 := vGo_bound e _ _ _ _ h
              have a1 : Vx (piece e (i + 1) k) := ih _ _ _ hk
              obtain ⟨ps, h1, h2, h3, h4⟩ := ih _ _ _ h
              have hik : i < k := by have := b1.2.2 rfl; omega
              simp only [not_or, Decidable.not_not, Bool.not_eq_true] at hl
              have hl2 : shapedV m = true := by simpa using hl.2.1
              have hp0 : piece e i k = m :: piece e (i + 1) k := piece_cons hm hik
              refine ⟨(m :: piece e (i + 1) k) :: ps, by simp [h1], by rw [piece_split e (Nat.le_of_lt hik) b2.2.1, h2, hp0]; rfl, ?_, hl.2.2, h4⟩
              intro p hp
              rcases List.mem_cons.1 hp with rfl | hp
              · exact ⟨m, _, rfl, hl.1, hl2, a1⟩
              · exact h3 p hp
theorem piece_mid (a p b : List Nd) : piece (a ++ p ++ b) a.length (a.length + p.length) = p := by
  unfold piece
  rw [List.append_assoc, List.drop_left]
  simp
/-- The reader reads it, wherever it stands. -/
def Rd (p : List Nd) : Prop := ∀ (a b : List Nd) (f : Nat), 2 * p.length ≤ f → vGo (a ++ p ++ b) f .one a.length = some (a.length + p.length)
theorem set_rd : ∀ (ps : List (List Nd)) (l : Option (List Nd)), (∀ p ∈ ps, Rd p ∧ 0 < p.length) → ChainV l ps → ∀ (a b : List Nd) (f : Nat), 2 * ps.flatten.length + 1 ≤ f →
    vGo (a ++ ps.flatten ++ b) f (.set ps.length l) a.length = some (a.length + ps.flatten.length)
  | [], l, _, _, a, b, f, hf => by
    match f, hf with
    | f + 1, _ => simp [vGo]
  | p :: ps, l, hp, hc, a, b, f, hf => by
    have h1 := hp p (by simp)
    rw [List.flatten_cons, List.length_append] at hf
    match f, hf with
    | f + 1, hf =>
      have r1 := h1.1 a (ps.flatten ++ b) f (by omega)
      have e1 : a ++ p ++ (ps.flatten ++ b) = a ++ (p :: ps).flatten ++ b := by simp
      rw [e1] at r1
      have e2 : piece (a ++ (p :: ps).flatten ++ b) a.length (a.length + p.length) = p := by rw [← e1]; exact piece_mid a p _
      have r2 := set_rd ps (some p) (fun q hq => hp q (by simp [hq])) hc.2 (a ++ p) b f (by omega)
      have e3 : a ++ p ++ ps.flatten ++ b = a ++ (p :: ps).flatten ++ b := by simp
      rw [e3, List.length_append] at r2
      simp only [List.length_cons, vGo, r1, e2]
      rw [if_neg (by rw [hc.1]; simp), r2, List.flatten_cons, List.length_append]
      congr 1
      omega
theorem fld_rd : ∀ (ps : List (List Nd)) (l : ByteArray), (∀ p ∈ ps, ∃ f v, p = f :: v ∧ f.op = 7 ∧ shapedV f = true ∧ Rd v ∧ 0 < v.length) → RiseF l ps → ∀ (a b : List Nd) (f : Nat), 2 * ps.flatten.length + 1 ≤ f →
    vGo (a ++ ps.flatten ++ b) f (.flds ps.length l) a.length = some (a.length + ps.flatten.length)
  | [], l, _, _, a, b, f, hf => by
    match f, hf with
    | f + 1, _ => simp [vGo]
  | p :: ps, l, hp, hc, a, b, f, hf => by
    obtain ⟨m, v, rfl, h7, hs, hr, hv0⟩ := hp p (by simp)
    rw [List.flatten_cons, List.length_append, List.length_cons] at hf
    match f, hf with
    | f + 1, hf =>
      have r1 := hr (a ++ [m]) (ps.flatten ++ b) f (by omega)
      have e1 : a ++ [m] ++ v ++ (ps.flatten ++ b) = a ++ ((m :: v) :: ps).flatten ++ b := by simp
      rw [e1, List.length_append, List.length_singleton] at r1
      have r2 := fld_rd ps m.s (fun q hq => hp q (by simp [hq])) hc.2 (a ++ m :: v) b f (by omega)
      have e3 : a ++ m :: v ++ ps.flatten ++ b = a ++ ((m :: v) :: ps).flatten ++ b := by simp
      rw [e3, List.length_append, List.length_cons] at r2
      have hm : (a ++ ((m :: v) :: ps).flatten ++ b)[a.length]? = some m := by simp
      have hl : sLate l m.s = false := hc.1
      simp only [List.length_cons, vGo, hm]
      rw [if_neg (by simp [h7, hs, hl]), r1]
      simp only
      rw [show a.length + 1 + v.length = a.length + (v.length + 1) from by omega, r2, List.flatten_cons, List.length_append, List.length_cons]
      congr 1
      omega
theorem rd_vx {xs : List Nd} (h : Vx xs) : Rd xs := by
  induction h with
  | leaf n hs h5 h6 h7 =>
    intro a b f hf
    match f, hf with
    | f + 1, _ => simp [vGo, hs, h5, h6, h7]
  | set n ps hs h5 hn hv hc ih =>
    intro a b f hf
    match f, hf with
    | f + 1, hf =>
      rw [List.length_cons] at hf
      have r := set_rd ps none (fun p hp => ⟨ih p hp, by obtain ⟨x, r, e, _⟩ := (hv p hp).ne; rw [e]; simp⟩) hc (a ++ [n]) b f (by omega)
      have e1 : a ++ [n] ++ ps.flatten ++ b = a ++ (n :: ps.flatten) ++ b := by simp
      rw [e1, List.length_append, List.length_singleton] at r
      have hm : (a ++ (n :: ps.flatten) ++ b)[a.length]? = some n := by simp
      simp only [vGo, hm, hs, h5]
      simp only [Bool.true_eq_false, if_false, if_true]
      rw [show n.n.toNat = ps.length from by omega, r, List.length_cons]
      congr 1
      omega
  | rcd n ps hs h6 hn h1 h2 h3 hc ih =>
    intro a b f hf
    match f, hf with
    | f + 1, hf =>
      rw [List.length_cons] at hf
      have r := fld_rd ps ⟨#[]⟩ (fun p hp => by
        obtain ⟨m, v, rfl⟩ := h1 p hp
        obtain ⟨a1, a2⟩ := h2 m v hp
        exact ⟨m, v, rfl, a1, a2, ih m v hp, by obtain ⟨x, r, e, _⟩ := (h3 m v hp).ne; rw [e]; simp⟩) hc (a ++ [n]) b f (by omega)
      have e1 : a ++ [n] ++ ps.flatten ++ b = a ++ (n :: ps.flatten) ++ b := by simp
      rw [e1, List.length_append, List.length_singleton] at r
      have hm : (a ++ (n :: ps.flatten) ++ b)[a.length]? = some n := by simp
      have h5 : ¬ n.op = 5 := by omega
      simp only [vGo, hm, hs, h6]
      simp only [Bool.true_eq_false, if_false, if_true]
      rw [if_neg (by omega), show n.n.toNat = ps.length from by omega, r, List.length_cons]
      congr 1
      omega
/-- A value, to the reader. -/
theorem val_iff (e : List Nd) : valErr e = 0 ↔ e.length ≤ 200 ∧ Vx e := by
  unfold valErr
  constructor
  · intro h
    split at h
    · cases h
    · split at h
      · rename_i h1 h2
        have := vx_of_vGo e _ _ _ _ h2
        have h3 : Vx (piece e 0 e.length) := this
        rw [show piece e 0 e.length = e from by simp [piece]] at h3
        exact ⟨by omega, h3⟩
      · cases h
  · rintro ⟨h1, h2⟩
    have r := rd_vx h2 [] [] (2 * e.length) (Nat.le_refl _)
    simp only [List.nil_append, List.append_nil, List.length_nil, Nat.zero_add] at r
    rw [if_neg (by omega), if_pos r]
theorem shaped_tv {n : Nd} (h : shapedV n = true) : shapedT n = true := by
  by_cases h5 : n.op = 5 ∨ n.op = 6
  · unfold shapedT
    rw [if_neg (by omega), if_pos h5]
    unfold shapedV at h
    rw [if_neg (by omega), if_neg (by omega), if_neg (by omega), if_neg (by omega), if_pos h5] at h
    exact h
  · by_cases h7 : n.op = 7
    · unfold shapedT
      rw [if_neg (by omega), if_neg (by omega), if_neg (by omega), if_pos (by omega)]
      unfold shapedV at h
      rw [if_neg (by omega), if_neg (by omega), if_neg (by omega), if_neg (by omega), if_neg (by omega), if_pos h7] at h
      exact h
    · have h1 : n.op = 1 ∨ n.op = 2 ∨ n.op = 3 ∨ n.op = 4 := by
        unfold shapedV at h
        by_cases a1 : n.op = 1
        · omega
        · by_cases a2 : n.op = 2
          · omega
          · by_cases a3 : n.op = 3
            · omega
            · by_cases a4 : n.op = 4
              · omega
              · rw [if_neg a1, if_neg a2, if_neg a3, if_neg a4, if_neg h5, if_neg h7] at h; cases h
      unfold shapedT
      rw [if_pos h1, (val_iff [n]).2 ⟨by simp, .leaf n h (by omega) (by omega) h7⟩]
      rfl
theorem ex_one {p : List Nd} {b : Bool} (h : Ex (.one b) p) (r : Bool) (hr : r = b) (hb : r = false) : Ex (.more 1 r ⟨#[]⟩) p := by
  subst hr; subst hb
  obtain ⟨x, xs, rfl, _, _⟩ := ex_ne h
  have := Ex.cons 0 false ⟨#[]⟩ x xs [] (by simp) h (.nil _ _)
  simpa using this
theorem fx_ex {f : Nd} {v : List Nd} (h7 : f.op = 7) (hs : shapedV f = true) (hv : Ex (.one false) v) : Ex (.one true) (f :: v) := by
  refine .one f v true (shaped_tv hs) (by simp [h7]) ?_
  have : ndParts f = 1 := by simp [ndParts, h7]
  rw [this, show (f.op == 6) = false from by simp [h7]]
  exact ex_one hv false rfl rfl
theorem rise_exk : ∀ {ps : List (List Nd)} {l : ByteArray}, (∀ p ∈ ps, Ex (.one true) p) → RiseF l ps → ExK true l ps
  | [], _, _, _ => trivial
  | p :: ps, l, h, hr => ⟨h p (by simp), fun _ => hr.1, rise_exk (fun q hq => h q (by simp [hq])) hr.2⟩
theorem exk_rise : ∀ {ps : List (List Nd)} {l : ByteArray}, ExK true l ps → RiseF l ps
  | [], _, _ => trivial
  | p :: ps, l, h => ⟨h.2.1 rfl, exk_rise h.2.2⟩
theorem vx_ex {xs : List Nd} (h : Vx xs) : Ex (.one false) xs := by
  induction h with
  | leaf n hs h5 h6 h7 =>
    refine .one n [] false (shaped_tv hs) (by simp [h7]) ?_
    have h1 : n.op = 1 ∨ n.op = 2 ∨ n.op = 3 ∨ n.op = 4 := by
      unfold shapedV at hs
      by_cases a1 : n.op = 1
      · omega
      · by_cases a2 : n.op = 2
        · omega
        · by_cases a3 : n.op = 3
          · omega
          · by_cases a4 : n.op = 4
            · omega
            · rw [if_neg a1, if_neg a2, if_neg a3, if_neg a4, if_neg (by omega), if_neg h7] at hs; cases hs
    have : ndParts n = 0 := by rcases h1 with h | h | h | h <;> simp [ndParts, h]
    rw [this]
    exact .nil _ _
  | set n ps hs h5 hn hv hc ih =>
    refine .one n _ false (shaped_tv hs) (by simp [h5]) ?_
    have : ndParts n = ps.length := by simp [ndParts, h5, hn]
    rw [this, show (n.op == 6) = false from by simp [h5], Int.toNat_natCast]
    exact exk_more ps false _ (exk_false ih)
  | rcd n ps hs h6 hn h1 h2 h3 hc ih =>
    refine .one n _ false (shaped_tv hs) (by simp [h6]) ?_
    have : ndParts n = ps.length := by simp [ndParts, h6, hn]
    rw [this, show (n.op == 6) = true from by simp [h6], Int.toNat_natCast]
    refine exk_more ps true _ (rise_exk (fun p hp => ?_) hc)
    obtain ⟨f, v, rfl⟩ := h1 p hp
    obtain ⟨a1, a2⟩ := h2 f v hp
    exact fx_ex a1 a2 (ih f v hp)
theorem chain_pw : ∀ {ps : List (List Nd)} {l : Option (List Nd)}, ChainV l ps → ps.Pairwise LtN ∧ ∀ a, l = some a → ∀ p ∈ ps, LtN a p
  | [], l, _ => by simp
  | p :: ps, l, h => by
    have ih := chain_pw h.2
    refine ⟨List.pairwise_cons.2 ⟨ih.2 p rfl, ih.1⟩, ?_⟩
    rintro a rfl q hq
    have h1 : LtN a p := by
      have := h.1
      simp only [vLate, decide_eq_false_iff_not] at this
      unfold LtN; omega
    rcases List.mem_cons.1 hq with rfl | hq
    · exact h1
    · exact ltN_trans _ _ _ h1 (ih.2 p rfl q hq)
theorem chain_of : ∀ {ps : List (List Nd)} {l : Option (List Nd)}, ps.Pairwise LtN → (∀ a, l = some a → ∀ p ∈ ps, LtN a p) → ChainV l ps
  | [], _, _, _ => trivial
  | p :: ps, l, h, hl => by
    have h' := List.pairwise_cons.1 h
    refine ⟨?_, chain_of h'.2 (by rintro a ⟨rfl⟩ q hq; exact h'.1 q hq)⟩
    cases l with
    | none => rfl
    | some a => have := hl a rfl p (by simp); unfold LtN at this; simp only [vLate, decide_eq_false_iff_not]; omega
end Go.Proofs.YtnhcjpmamgdeoaaGreatDoor
namespace Go.Proofs.YtnhcjpmamgdeoaaGreatDoor
open Go.RowKit Go.Sort

theorem ren_shapedV {m : Mv} (hm : mvErr m = 0) {x : Nd} (h : shapedV x = true) : shapedV (ren m x) = true := by
  unfold ren
  split
  · rename_i hc
    have hl := hc.1
    have ht := (mv_ok hm).2.2
    have ho : x.op = 7 ∨ x.op = 4 := by
      unfold looksB at hl
      unfold shapedV at h
      split at hl
      · rename_i ho
        rcases ho with ho | ho | ho
        · exact .inl ho
        · simp [ho] at h
        · simp [ho] at h
      · split at hl
        · rename_i ho
          rcases ho with ho | ho
          · exact .inr ho
          · simp [ho] at h
        · cases hl
    unfold shapedV at h ⊢
    rcases ho with ho | ho
    · simp only [ho] at h ⊢
      simp at h ⊢
      exact ⟨h.1, ht⟩
    · simp only [ho] at h ⊢
      simp at h ⊢
      exact ⟨⟨h.1.1, ht⟩, h.2⟩
  · exact h
def backM (m : Mv) : Mv := ⟨m.what, m.to_, m.fr⟩
theorem looks_back (m : Mv) (x : Nd) : looksB (backM m) x = looksB m x := rfl
theorem toList_ext {x y : ByteArray} (h : x.toList = y.toList) : x = y := bytes_ext (by rw [ByteArray.toList_eq, ByteArray.toList_eq] at h; exact h)
theorem ren_back {m : Mv} {x : Nd} (h : looksB m x = true → x.s.toList ≠ m.to_.toList) : ren (backM m) (ren m x) = x := by
  by_cases hc : looksB m x = true ∧ x.s.toList = m.fr.toList
  · have e1 : ren m x = ⟨x.op, x.n, m.to_, x.t⟩ := by unfold ren; rw [if_pos hc]
    have hl : looksB (backM m) ⟨x.op, x.n, m.to_, x.t⟩ = true := by rw [looks_back, ← e1, looks_ren]; exact hc.1
    rw [e1]
    unfold ren
    rw [if_pos ⟨hl, rfl⟩]
    show (⟨x.op, x.n, m.fr, x.t⟩ : Nd) = x
    rw [← toList_ext hc.2]
  · have e1 : ren m x = x := by unfold ren; rw [if_neg hc]
    rw [e1]
    unfold ren
    rw [if_neg]
    rintro ⟨h1, h2⟩
    exact h h1 h2
theorem back_ok {m : Mv} (h : mvErr m = 0) : mvErr (backM m) = 0 := by
  obtain ⟨h1, h2, h3⟩ := mv_ok h
  unfold mvErr backM
  simp only
  rw [if_neg (by omega), if_neg (by simp [h3]), h2]
theorem fresh_back {m : Mv} {x : Nd} (h : looksB m x = true → x.s.toList ≠ m.to_.toList) : looksB (backM m) (ren m x) = true → (ren m x).s.toList ≠ (backM m).to_.toList := by
  intro hl
  rw [looks_back, looks_ren] at hl
  show (ren m x).s.toList ≠ m.fr.toList
  rw [ren_s]
  split
  · rename_i hc
    intro e
    exact h hl (hc.2.trans e.symm)
  · rename_i hc
    exact fun e => hc ⟨hl, e⟩
theorem allSome_cases {α β : Type} (f : α → Option β) : ∀ (ps : List α), allSome (ps.map f) = none ∨ ∃ qs, allSome (ps.map f) = some qs ∧ qs.length = ps.length ∧ ∀ q ∈ qs, ∃ p ∈ ps, f p = some q
  | [] => .inr ⟨[], rfl, rfl, by simp⟩
  | p :: ps => by
    rw [List.map_cons]
    cases hp : f p with
    | none => exact .inl rfl
    | some y =>
      rw [allSome]
      rcases allSome_cases f ps with h | ⟨qs, h, hl, hq⟩
      · rw [h]; exact .inl rfl
      · rw [h]
        refine .inr ⟨y :: qs, rfl, by simp [hl], ?_⟩
        intro q hq'
        rcases List.mem_cons.1 hq' with rfl | hq'
        · exact ⟨p, by simp, hp⟩
        · obtain ⟨p', h1, h2⟩ := hq q hq'
          exact ⟨p', by simp [h1], h2⟩
theorem allSome_len {α : Type} (f : List α → Option (List Nd)) : ∀ (ps : List (List α)) (qs : List (List Nd)), allSome (ps.map f) = some qs → (∀ p ∈ ps, ∀ q, f p = some q → q.length ≤ p.length) → qs.flatten.length ≤ ps.flatten.length
  | [], qs, h, _ => by injection h with h; subst h; simp
  | p :: ps, qs, h, hl => by
    rw [List.map_cons] at h
    cases hp : f p with
    | none => rw [hp] at h; cases h
    | some y =>
      rw [hp, allSome] at h
      cases hr : allSome (ps.map f) with
      | none => rw [hr] at h; cases h
      | some r =>
        rw [hr] at h
        injection h with h
        subst h
        have h1 := allSome_len f ps r hr (fun p hp => hl p (by simp [hp]))
        have h2 := hl p (by simp) y hp
        simp only [List.flatten_cons, List.length_append]; omega
theorem mem_len {ps : List (List Nd)} {p : List Nd} (h : p ∈ ps) : p.length ≤ ps.flatten.length := by
  obtain ⟨l1, l2, rfl⟩ := List.append_of_mem h
  simp; omega
theorem valsErr_zero : ∀ {qs : List (List Nd)}, (∀ q ∈ qs, Vx q ∧ q.length ≤ 200) → valsErr qs = 0
  | [], _ => rfl
  | q :: qs, h => by
    rw [valsErr, (val_iff q).2 ⟨(h q (by simp)).2, (h q (by simp)).1⟩, if_neg (by simp), valsErr_zero fun q hq => h q (by simp [hq])]
theorem mem_setParts {qs : List (List Nd)} {p : List Nd} (h : p ∈ setParts qs) : p ∈ qs := (List.mergeSort_perm _ _).mem_iff.1 ((dedupP_sub _).subset h)
theorem sub_flat {l1 l2 : List (List Nd)} (h : l1.Sublist l2) : l1.flatten.length ≤ l2.flatten.length := by
  induction h with
  | slnil => exact Nat.le_refl _
  | cons a h ih => rw [List.flatten_cons, List.length_append]; omega
  | cons_cons a h ih => rw [List.flatten_cons, List.flatten_cons, List.length_append, List.length_append]; omega
theorem setParts_len (qs : List (List Nd)) : (setParts qs).flatten.length ≤ qs.flatten.length := by
  have h1 : (setParts qs).flatten.length ≤ (qs.mergeSort ndsLe).flatten.length := sub_flat (dedupP_sub _)
  rw [(List.mergeSort_perm qs ndsLe).flatten.length_eq] at h1
  exact h1
theorem setOf_ok {qs : List (List Nd)} (hv : ∀ q ∈ qs, Vx q) (hl : qs.flatten.length + 1 ≤ 200) : setOfP qs = (setNodes qs, 0) ∧ Vx (setNodes qs) ∧ (setNodes qs).length ≤ qs.flatten.length + 1 := by
  have h1 := setParts_len qs
  have h2 : (setNodes qs).length ≤ qs.flatten.length + 1 := by unfold setNodes; rw [List.length_cons]; omega
  refine ⟨?_, ?_, h2⟩
  · unfold setOfP
    rw [valsErr_zero (fun q hq => ⟨hv q hq, by have := mem_len hq; omega⟩), if_neg (by simp), if_neg (by omega)]
  · exact .set _ _ (by simp [shapedV, ByteArray.toList_eq]) rfl rfl (fun p hp => hv p (mem_setParts hp)) (chain_of (setParts_pw qs) (by simp))
theorem fld_step (m : Mv) (vals : Bool) (k : Nat) {f : Nd} {v : List Nd} (hv : Ex (.one false) v) (h7 : f.op = 7) : movGo m vals (k + 1) (f :: v) = (movGo m vals k v).map fun w => ren m f :: w := by
  have h := movGo_any m vals k f (ps := [v]) (by intro p hp; simp at hp; subst hp; exact ⟨_, hv⟩)
  simp only [List.flatten_cons, List.flatten_nil, List.append_nil, List.map_cons, List.map_nil] at h
  rw [h]
  cases movGo m vals k v with
  | none => rfl
  | some w => simp [allSome, h7]
theorem leaf_step (m : Mv) (vals : Bool) (k : Nat) {n : Nd} (h5 : ¬ n.op = 5) (h6 : ¬ n.op = 6) : movGo m vals (k + 1) [n] = some [ren m n] := by
  have h := movGo_any m vals k n (ps := []) (by simp)
  simp only [List.flatten_nil, List.map_nil, allSome, h5, h6, false_and, if_false] at h
  exact h
theorem nodup_rise {qs : List (List Nd)} (h : ∀ q ∈ qs, Ex (.one true) q) (hn : (namesOf qs).Nodup) : ExK true ⟨#[]⟩ (sortN qs) := by
  refine exk_of_pw (fun q hq => h q ((sortN_perm qs).mem_iff.1 hq)) (sortN_pw hn) ?_
  intro s hs'
  obtain ⟨q, hq, rfl⟩ := List.mem_map.1 hs'
  obtain ⟨x, xs, rfl, hsx, hx7⟩ := ex_ne (h q ((sortN_perm qs).mem_iff.1 hq))
  rw [show (⟨#[]⟩ : ByteArray).toList = [] from by rw [ByteArray.toList_eq]]
  exact nm_ne (fld_name hsx (by simpa using hx7))
/-- A value moved is none, or a value. -/
theorem vx_mov {m : Mv} (hm : mvErr m = 0) {xs : List Nd} (h : Vx xs) : xs.length ≤ 200 → ∀ k, xs.length ≤ k → movGo m true k xs = none ∨ ∃ ys, movGo m true k xs = some ys ∧ Vx ys ∧ ys.length ≤ xs.length := by
  induction h with
  | leaf n hs h5 h6 h7 =>
    intro hl k hk
    match k, hk with
    | k + 1, hk =>
      refine .inr ⟨_, leaf_step m true k h5 h6, ?_, by simp⟩
      have := ren_op m n
      exact .leaf _ (ren_shapedV hm hs) (by omega) (by omega) (by omega)
  | set n ps hs h5 hn hv hc ih =>
    intro hl k hk
    rw [List.length_cons] at hl hk
    match k, hk with
    | k + 1, hk =>
      rw [movGo_any m true k n fun p hp => ⟨_, vx_ex (hv p hp)⟩]
      have hp : ∀ p ∈ ps, movGo m true k p = none ∨ ∃ ys, movGo m true k p = some ys ∧ Vx ys ∧ ys.length ≤ p.length := fun p hp => ih p hp (by have := mem_len hp; omega) k (by have := mem_len hp; omega)
      have hp' : ∀ p ∈ ps, ∀ q, movGo m true k p = some q → Vx q ∧ q.length ≤ p.length := fun p hpm q hq => by
        rcases hp p hpm with h | ⟨ys, h, h'⟩
        · rw [h] at hq; cases hq
        · rw [h] at hq; injection hq with hq; subst hq; exact h'
      rcases allSome_cases (movGo m true k) ps with h | ⟨qs, h, hlq, hq⟩
      · rw [h]; exact .inl rfl
      · have h6 : ¬ n.op = 6 := by omega
        have hle := allSome_len _ _ _ h (fun p hpm q hq => (hp' p hpm q hq).2)
        have hvq : ∀ q ∈ qs, Vx q := fun q hqm => by obtain ⟨p, h1, h2⟩ := hq q hqm; exact (hp' p h1 q h2).1
        obtain ⟨a1, a2, a3⟩ := setOf_ok hvq (by omega)
        rw [h]
        simp only [h6, h5, if_false, if_true, true_and]
        refine .inr ⟨_, rfl, ?_, ?_⟩
        · rw [a1]; exact a2
        · rw [a1, List.length_cons]; show (setNodes qs).length ≤ _; omega
  | rcd n ps hs h6 hn h1 h2 h3 hc ih =>
    intro hl k hk
    rw [List.length_cons] at hl hk
    match k, hk with
    | k + 1, hk =>
      have hex : ∀ p ∈ ps, Ex (.one true) p := fun p hp => by
        obtain ⟨f, v, rfl⟩ := h1 p hp
        obtain ⟨a1, a2⟩ := h2 f v hp
        exact fx_ex a1 a2 (vx_ex (h3 f v hp))
      rw [movGo_any m true k n fun p hp => ⟨_, hex p hp⟩]
      have hp' : ∀ p ∈ ps, ∀ q, movGo m true k p = some q → Fx q ∧ q.length ≤ p.length := fun p hpm q hq => by
        have hle := mem_len hpm
        obtain ⟨f, v, rfl⟩ := h1 p hpm
        obtain ⟨a1, a2⟩ := h2 f v hpm
        rw [List.length_cons] at hle
        match k, hk with
        | 0, hk => omega
        | k + 1, hk =>
          rw [fld_step m true k (vx_ex (h3 f v hpm)) a1] at hq
          rcases ih f v hpm (by omega) k (by omega) with h | ⟨ys, h, h', h''⟩
          · rw [h] at hq; cases hq
          · rw [h] at hq
            injection hq with hq
            subst hq
            exact ⟨⟨ren m f, ys, rfl, by rw [(ren_op m f).1]; exact a1, ren_shapedV hm a2, h'⟩, by simpa using h''⟩
      rcases allSome_cases (movGo m true k) ps with h | ⟨qs, h, hlq, hq⟩
      · rw [h]; exact .inl rfl
      · have hle := allSome_len _ _ _ h (fun p hpm q hq => (hp' p hpm q hq).2)
        have hvq : ∀ q ∈ qs, Fx q := fun q hqm => by obtain ⟨p, h1, h2⟩ := hq q hqm; exact (hp' p h1 q h2).1
        have heq : ∀ q ∈ qs, Ex (.one true) q := fun q hqm => by obtain ⟨f, v, rfl, a, b, c⟩ := hvq q hqm; exact fx_ex a b (vx_ex c)
        rw [h]
        simp only [h6, if_true]
        by_cases hnd : (namesOf qs).Nodup
        · rw [if_pos hnd]
          refine .inr ⟨_, rfl, ?_, ?_⟩
          · have e := ren_op m n
            exact .rcd' (ren_shapedV hm hs) (by omega) (by rw [e.2.1, hn, (sortN_perm qs).length_eq, hlq]) (fun p hp => hvq p ((sortN_perm qs).mem_iff.1 hp)) (exk_rise (nodup_rise heq hnd))
          · rw [List.length_cons, List.length_cons, (sortN_perm qs).flatten.length_eq]; omega
        · rw [if_neg hnd]; exact .inl rfl
/-- An expression moved is none, or an expression. -/
theorem ex_mov {m : Mv} (hm : mvErr m = 0) : ∀ (N : Nat) (xs : List Nd) (b : Bool), xs.length ≤ N → Ex (.one b) xs → ∀ k, xs.length ≤ k → movGo m false k xs = none ∨ ∃ ys, movGo m false k xs = some ys ∧ Ex (.one b) ys ∧ ys.length ≤ xs.length
  | 0, xs, b, hN, hx => by obtain ⟨x, r, rfl, _, _⟩ := ex_ne hx; simp at hN
  | N + 1, xs, b, hN, hx => by
    intro k hk
    cases hx with
    | one x body _ hs h7 hbd =>
      obtain ⟨ps, hc, rfl, hK⟩ := ex_pieces hbd
      rw [List.length_cons] at hN hk
      match k, hk with
      | k + 1, hk =>
        have hall := exk_all hK
        rw [movGo_step m false k x hK]
        have hp' : ∀ p ∈ ps, ∀ q, movGo m false k p = some q → Ex (.one (x.op == 6)) q ∧ q.length ≤ p.length := fun p hpm q hq => by
          have hle := mem_len hpm
          rcases ex_mov hm N p _ (by omega) (hall p hpm) k (by omega) with h | ⟨ys, h, h'⟩
          · rw [h] at hq; cases hq
          · rw [h] at hq; injection hq with hq; subst hq; exact h'
        have e := ren_op m x
        rcases allSome_cases (movGo m false k) ps with h | ⟨qs, h, hlq, hq⟩
        · rw [h]; exact .inl rfl
        · have hle := allSome_len _ _ _ h (fun p hpm q hq => (hp' p hpm q hq).2)
          have hvq : ∀ q ∈ qs, Ex (.one (x.op == 6)) q := fun q hqm => by obtain ⟨p, h1, h2⟩ := hq q hqm; exact (hp' p h1 q h2).1
          rw [h]
          simp only [Bool.false_eq_true, and_false, if_false]
          by_cases h6 : x.op = 6
          · rw [if_pos h6]
            rw [show (x.op == 6) = true from by simp [h6]] at hvq
            by_cases hnd : (namesOf qs).Nodup
            · rw [if_pos hnd]
              refine .inr ⟨_, rfl, .one _ _ b (ren_shaped hm hs) (by rw [e.1]; exact h7) ?_, ?_⟩
              · have := exk_more _ _ _ (nodup_rise hvq hnd)
                rw [ren_parts, e.1, ← hc, ← hlq, ← (sortN_perm qs).length_eq, h6]; exact this
              · rw [List.length_cons, List.length_cons, (sortN_perm qs).flatten.length_eq]; omega
            · rw [if_neg hnd]; exact .inl rfl
          · rw [if_neg h6]
            rw [show (x.op == 6) = false from by simp [h6]] at hvq
            refine .inr ⟨_, rfl, .one _ _ b (ren_shaped hm hs) (by rw [e.1]; exact h7) ?_, ?_⟩
            · have := exk_more _ _ ⟨#[]⟩ (exk_false hvq)
              rw [ren_parts, e.1, ← hc, ← hlq, show (x.op == 6) = false from by simp [h6]]; exact this
            · rw [List.length_cons, List.length_cons]; omega
theorem map_flat_len {F : List Nd → List Nd} : ∀ (ps : List (List Nd)), (∀ p ∈ ps, (F p).length = p.length) → (ps.map F).flatten.length = ps.flatten.length
  | [], _ => rfl
  | p :: ps, h => by rw [List.map_cons, List.flatten_cons, List.flatten_cons, List.length_append, List.length_append, h p (by simp), map_flat_len ps fun q hq => h q (by simp [hq])]
theorem map_id {α : Type} {f : α → α} : ∀ (l : List α), (∀ x ∈ l, f x = x) → l.map f = l
  | [], _ => rfl
  | x :: l, h => by rw [List.map_cons, h x (by simp), map_id l fun y hy => h y (by simp [hy])]
theorem rise_names {ps : List (List Nd)} {l : ByteArray} (h : ExK true l ps) : (namesOf ps).Pairwise (· < ·) := (exk_pw h).1
theorem sortN_of {ps qs : List (List Nd)} {l : ByteArray} (h : ExK true l ps) (hp : qs.Perm ps) : (namesOf qs).Nodup ∧ sortN qs = ps := by
  have h1 := rise_names h
  have h2 : (namesOf qs).Nodup := (hp.map _).nodup_iff.2 (pw_nodup h1)
  exact ⟨h2, rise_eq (sortN_pw h2) h1 ((sortN_perm qs).trans hp)⟩
/-- There and back: a value. -/
theorem vx_back {m : Mv} (hm : mvErr m = 0) {xs : List Nd} (h : Vx xs) : xs.length ≤ 200 → (∀ x ∈ xs, looksB m x = true → x.s.toList ≠ m.to_.toList) → ∀ k, xs.length ≤ k →
    ∃ ys, movGo m true k xs = some ys ∧ Vx ys ∧ ys.length = xs.length ∧ ys.head? = xs.head?.map (ren m) ∧ movGo (backM m) true k ys = some xs := by
  induction h with
  | leaf n hs h5 h6 h7 =>
    intro hl hf k hk
    match k, hk with
    | k + 1, hk =>
      have := ren_op m n
      refine ⟨_, leaf_step m true k h5 h6, .leaf _ (ren_shapedV hm hs) (by omega) (by omega) (by omega), by simp, rfl, ?_⟩
      rw [leaf_step (backM m) true k (by omega) (by omega), ren_back (hf n (by simp))]
  | set n ps hs h5 hn hv hc ih =>
    intro hl hf k hk
    rw [List.length_cons] at hl hk
    match k, hk with
    | k + 1, hk =>
      have hlen : ∀ p ∈ ps, p.length ≤ ps.flatten.length := fun p hp => mem_len hp
      have gm : ∀ p ∈ ps, ∃ ys, movGo m true k p = some ys ∧ Vx ys ∧ ys.length = p.length ∧ ys.head? = p.head?.map (ren m) ∧ movGo (backM m) true k ys = some p := fun p hp =>
        ih p hp (by have := hlen p hp; omega) (fun x hx => hf x (by simp; exact .inr ⟨p, hp, hx⟩)) k (by have := hlen p hp; omega)
      have em := allSome_of (movGo m true k) ps (fun p hp => by obtain ⟨y, h, _⟩ := gm p hp; exact ⟨y, h⟩)
      generalize hF : (fun p => (movGo m true k p).getD default) = F at em
      have fm : ∀ p ∈ ps, Vx (F p) ∧ (F p).length = p.length ∧ movGo (backM m) true k (F p) = some p := fun p hp => by
        obtain ⟨y, h, h1, h2, _, h3⟩ := gm p hp
        have : F p = y := by rw [← hF]; simp [h]
        rw [this]; exact ⟨h1, h2, h3⟩
      have h6 : ¬ n.op = 6 := by omega
      have hpw := (chain_pw hc).1
      have hnd : (ps.map F).Nodup := by
        rw [List.Nodup, List.pairwise_map]
        refine hpw.imp_of_mem ?_
        intro a b ha hb hab e
        have e1 := (fm a ha).2.2
        rw [e, (fm b hb).2.2] at e1
        injection e1 with e1
        subst e1
        exact ltN_irrefl _ hab
      have hvq : ∀ q ∈ ps.map F, Vx q := fun q hq => by obtain ⟨p, hp, rfl⟩ := List.mem_map.1 hq; exact (fm p hp).1
      have hfl := map_flat_len ps (F := F) fun p hp => (fm p hp).2.1
      obtain ⟨a1, a2, a3⟩ := setOf_ok hvq (by omega)
      have hperm := setParts_perm hnd
      have hren : ren m n = n := by unfold ren looksB; simp [h5]
      have hn5 : n = ⟨5, ps.length, ⟨#[]⟩, ⟨#[]⟩⟩ := by
        simp [shapedV, h5] at hs
        have e1 : n.s = ⟨#[]⟩ := toList_ext (by rw [hs.1.2, ByteArray.toList_eq])
        have e2 : n.t = ⟨#[]⟩ := toList_ext (by rw [hs.2, ByteArray.toList_eq])
        cases n; simp at h5 hn e1 e2; simp [h5, hn, e1, e2]
      refine ⟨setNodes (ps.map F), ?_, a2, ?_, ?_, ?_⟩
      · rw [movGo_any m true k n fun p hp => ⟨_, vx_ex (hv p hp)⟩, em]
        simp only [h5, show ¬ (5 : Int) = 6 from by omega, if_false, if_true, true_and, a1]
      · unfold setNodes
        rw [List.length_cons, List.length_cons, hperm.flatten.length_eq, hfl]
      · show some _ = some _
        rw [hren, hn5, hperm.length_eq, List.length_map]
      · unfold setNodes
        rw [movGo_any (backM m) true k _ fun q hq => ⟨_, vx_ex (hvq q (mem_setParts hq))⟩]
        have gb : ∀ q ∈ setParts (ps.map F), ∃ p ∈ ps, q = F p := fun q hq => by
          obtain ⟨p, hp, rfl⟩ := List.mem_map.1 (mem_setParts hq); exact ⟨p, hp, rfl⟩
        rw [allSome_of _ _ (fun q hq => by obtain ⟨p, hp, rfl⟩ := gb q hq; exact ⟨p, (fm p hp).2.2⟩)]
        generalize hG : (fun q => (movGo (backM m) true k q).getD default) = G
        have hgf : (ps.map F).map G = ps := by
          rw [List.map_map]
          refine map_id ps fun p hp => ?_
          show G (F p) = p
          rw [← hG]
          simp [(fm p hp).2.2]
        have hpG : ((setParts (ps.map F)).map G).Perm ps := (hperm.map G).trans (List.Perm.of_eq hgf)
        obtain ⟨b1, _, _⟩ := setOf_ok (qs := (setParts (ps.map F)).map G) (fun q hq => hv q (hpG.mem_iff.1 hq)) (by rw [hpG.flatten.length_eq]; omega)
        simp only [show ¬ (5 : Int) = 6 from by omega, if_false, if_true, true_and, b1]
        unfold setNodes
        rw [setParts_of hpG hpw, ← hn5]
  | rcd n ps hs h6 hn h1 h2 h3 hc ih =>
    intro hl hf k hk
    rw [List.length_cons] at hl hk
    match k, hk with
    | k + 1, hk =>
      have hex : ∀ p ∈ ps, Ex (.one true) p := fun p hp => by
        obtain ⟨f, v, rfl⟩ := h1 p hp
        obtain ⟨a1, a2⟩ := h2 f v hp
        exact fx_ex a1 a2 (vx_ex (h3 f v hp))
      have hK := rise_exk hex hc
      have gm : ∀ p ∈ ps, ∃ ys, movGo m true k p = some ys ∧ Fx ys ∧ ys.length = p.length ∧ ys.head? = p.head?.map (ren m) ∧ movGo (backM m) true k ys = some p := fun p hpm => by
        have hle := mem_len hpm
        have hfp : ∀ x ∈ p, looksB m x = true → x.s.toList ≠ m.to_.toList := fun x hx => hf x (by simp; exact .inr ⟨p, hpm, hx⟩)
        obtain ⟨f, v, rfl⟩ := h1 p hpm
        obtain ⟨a1, a2⟩ := h2 f v hpm
        rw [List.length_cons] at hle
        match k, hk with
        | 0, hk => omega
        | k + 1, hk =>
          obtain ⟨ys, c1, c2, c3, _, c4⟩ := ih f v hpm (by omega) (fun x hx => hfp x (by simp [hx])) k (by omega)
          refine ⟨ren m f :: ys, by rw [fld_step m true k (vx_ex (h3 f v hpm)) a1, c1]; rfl, ⟨_, ys, rfl, by rw [(ren_op m f).1]; exact a1, ren_shapedV hm a2, c2⟩, by simp [c3], rfl, ?_⟩
          rw [fld_step (backM m) true k (vx_ex c2) (by rw [(ren_op m f).1]; exact a1), c4, Option.map_some, ren_back (hfp f (by simp))]
      have em := allSome_of (movGo m true k) ps (fun p hp => by obtain ⟨y, h, _⟩ := gm p hp; exact ⟨y, h⟩)
      generalize hF : (fun p => (movGo m true k p).getD default) = F at em
      have fm : ∀ p ∈ ps, Fx (F p) ∧ (F p).length = p.length ∧ (F p).head? = p.head?.map (ren m) ∧ movGo (backM m) true k (F p) = some p := fun p hp => by
        obtain ⟨y, h, h1, h2, h4, h3⟩ := gm p hp
        have : F p = y := by rw [← hF]; simp [h]
        rw [this]; exact ⟨h1, h2, h4, h3⟩
      have hvq : ∀ q ∈ ps.map F, Fx q := fun q hq => by obtain ⟨p, hp, rfl⟩ := List.mem_map.1 hq; exact (fm p hp).1
      have heq : ∀ q ∈ ps.map F, Ex (.one true) q := fun q hqm => by obtain ⟨f, v, rfl, a, b, c⟩ := hvq q hqm; exact fx_ex a b (vx_ex c)
      have hfl := map_flat_len ps (F := F) fun p hp => (fm p hp).2.1
      have hpf : ∀ p ∈ ps, ∃ x xs, p = x :: xs ∧ x.op = 7 := fun p hp => by
        obtain ⟨f, v, rfl⟩ := h1 p hp
        exact ⟨f, v, rfl, (h2 f v hp).1⟩
      have hhd : (ps.map F).map List.head? = ps.map fun p => p.head?.map (ren m) := by
        rw [List.map_map]
        exact List.map_congr_left fun p hp => (fm p hp).2.2.1
      have hnd : (namesOf (ps.map F)).Nodup := ren_nodup hhd hpf (fun p hp x hx => hf x (by simp; exact .inr ⟨p, hp, hx⟩)) (pw_nodup (rise_names hK))
      have e := ren_op m n
      have hren : ren m n = n := by unfold ren looksB; simp [h6]
      refine ⟨ren m n :: (sortN (ps.map F)).flatten, ?_, ?_, ?_, rfl, ?_⟩
      · rw [movGo_any m true k n fun p hp => ⟨_, hex p hp⟩, em]
        simp only [h6, if_true]
        rw [if_pos hnd]
      · exact .rcd' (ren_shapedV hm hs) (by omega) (by rw [e.2.1, hn, (sortN_perm _).length_eq, List.length_map]) (fun p hp => hvq p ((sortN_perm _).mem_iff.1 hp)) (exk_rise (nodup_rise heq hnd))
      · rw [List.length_cons, List.length_cons, (sortN_perm _).flatten.length_eq, hfl]
      · rw [movGo_any (backM m) true k _ fun q hq => ⟨_, heq q ((sortN_perm _).mem_iff.1 hq)⟩]
        have gb : ∀ q ∈ sortN (ps.map F), ∃ p ∈ ps, q = F p := fun q hq => by
          obtain ⟨p, hp, rfl⟩ := List.mem_map.1 ((sortN_perm _).mem_iff.1 hq); exact ⟨p, hp, rfl⟩
        rw [allSome_of _ _ (fun q hq => by obtain ⟨p, hp, rfl⟩ := gb q hq; exact ⟨p, (fm p hp).2.2.2⟩)]
        generalize hG : (fun q => (movGo (backM m) true k q).getD default) = G
        have hgf : (ps.map F).map G = ps := by
          rw [List.map_map]
          refine map_id ps fun p hp => ?_
          show G (F p) = p
          rw [← hG]
          simp [(fm p hp).2.2.2]
        have hpG : ((sortN (ps.map F)).map G).Perm ps := ((sortN_perm _).map G).trans (List.Perm.of_eq hgf)
        obtain ⟨b1, b2⟩ := sortN_of hK hpG
        simp only [e.1, h6, if_true]
        rw [if_pos b1, b2, hren]
        have : ren (backM m) n = n := by unfold ren looksB; simp [h6]
        rw [this]
/-- There and back: an expression. -/
theorem ex_back {m : Mv} (hm : mvErr m = 0) : ∀ (N : Nat) (xs : List Nd) (b : Bool), xs.length ≤ N → Ex (.one b) xs → (∀ x ∈ xs, looksB m x = true → x.s.toList ≠ m.to_.toList) →
    ∀ k, xs.length ≤ k → ∃ ys, movGo m false k xs = some ys ∧ movGo (backM m) false k ys = some xs
  | 0, xs, b, hN, hx, _ => by obtain ⟨x, r, rfl, _, _⟩ := ex_ne hx; simp at hN
  | N + 1, xs, b, hN, hx, hf => by
    intro k hk
    cases hx with
    | one x body _ hs h7 hbd =>
      obtain ⟨ps, hc, rfl, hK⟩ := ex_pieces hbd
      rw [List.length_cons] at hN hk
      match k, hk with
      | k + 1, hk =>
        have hall := exk_all hK
        have hfp : ∀ p ∈ ps, ∀ y ∈ p, looksB m y = true → y.s.toList ≠ m.to_.toList := fun p hp y hy => hf y (by simp; exact .inr ⟨p, hp, hy⟩)
        have gm : ∀ p ∈ ps, ∃ y, movGo m false k p = some y ∧ Ex (.one (x.op == 6)) y ∧ y.head? = p.head?.map (ren m) ∧ movGo (backM m) false k y = some p := fun p hp => by
          have hle := mem_len hp
          obtain ⟨y, a1, a2, a3, a4⟩ := mov_ex hm (hall p hp) (hfp p hp) k (by omega)
          obtain ⟨y', b1, b2⟩ := ex_back hm N p _ (by omega) (hall p hp) (hfp p hp) k (by omega)
          rw [a1] at b1
          injection b1 with b1
          subst b1
          exact ⟨y, a1, a2, a3, b2⟩
        have em := allSome_of (movGo m false k) ps (fun p hp => by obtain ⟨y, h, _⟩ := gm p hp; exact ⟨y, h⟩)
        generalize hF : (fun p => (movGo m false k p).getD default) = F at em
        have fm : ∀ p ∈ ps, Ex (.one (x.op == 6)) (F p) ∧ (F p).head? = p.head?.map (ren m) ∧ movGo (backM m) false k (F p) = some p := fun p hp => by
          obtain ⟨y, h, h'⟩ := gm p hp
          have : F p = y := by rw [← hF]; simp [h]
          rw [this]; exact h'
        rw [movGo_step m false k x hK, em]
        have e := ren_op m x
        have hrb : ren (backM m) (ren m x) = x := ren_back (hf x (by simp))
        generalize hG : (fun q => (movGo (backM m) false k q).getD default) = G
        have hgf : (ps.map F).map G = ps := by
          rw [List.map_map]
          refine map_id ps fun p hp => ?_
          show G (F p) = p
          rw [← hG]
          simp [(fm p hp).2.2]
        by_cases h6 : x.op = 6
        · simp only [h6, if_true]
          rw [h6] at hK
          have hK6 : ExK true ⟨#[]⟩ ps := hK
          have hpf : ∀ p ∈ ps, ∃ x xs, p = x :: xs ∧ x.op = 7 := fun p hp => by
            obtain ⟨x, xs, e, _, h⟩ := ex_ne (exk_all hK6 p hp)
            exact ⟨x, xs, e, by simpa using h⟩
          have hhd : (ps.map F).map List.head? = ps.map fun p => p.head?.map (ren m) := by
            rw [List.map_map]
            exact List.map_congr_left fun p hp => (fm p hp).2.1
          have hnd : (namesOf (ps.map F)).Nodup := ren_nodup hhd hpf hfp (pw_nodup (rise_names hK6))
          rw [if_pos hnd]
          refine ⟨_, rfl, ?_⟩
          have gb : ∀ q ∈ sortN (ps.map F), ∃ p ∈ ps, q = F p := fun q hq => by
            obtain ⟨p, hp, rfl⟩ := List.mem_map.1 ((sortN_perm _).mem_iff.1 hq); exact ⟨p, hp, rfl⟩
          rw [movGo_any (backM m) false k _ (fun q hq => by obtain ⟨p, hp, rfl⟩ := gb q hq; exact ⟨_, (fm p hp).1⟩),
            allSome_of _ _ (fun q hq => by obtain ⟨p, hp, rfl⟩ := gb q hq; exact ⟨p, (fm p hp).2.2⟩), hG]
          have hpG : ((sortN (ps.map F)).map G).Perm ps := ((sortN_perm _).map G).trans (List.Perm.of_eq hgf)
          obtain ⟨b1, b2⟩ := sortN_of hK6 hpG
          simp only [e.1, h6, if_true]
          rw [if_pos b1, b2, hrb]
        · simp only [h6, if_false, Bool.false_eq_true, and_false]
          refine ⟨_, rfl, ?_⟩
          have gb : ∀ q ∈ ps.map F, ∃ p ∈ ps, q = F p := fun q hq => by
            obtain ⟨p, hp, rfl⟩ := List.mem_map.1 hq; exact ⟨p, hp, rfl⟩
          rw [movGo_any (backM m) false k _ (fun q hq => by obtain ⟨p, hp, rfl⟩ := gb q hq; exact ⟨_, (fm p hp).1⟩),
            allSome_of _ _ (fun q hq => by obtain ⟨p, hp, rfl⟩ := gb q hq; exact ⟨p, (fm p hp).2.2⟩), hG, hgf]
          simp only [e.1, h6, if_false, Bool.false_eq_true, and_false, hrb]
def movV (m : Mv) (v : List Nd) : Option (List Nd) := movGo m true v.length v
/-- MoveBack, of an expression. -/
theorem back_expr {m : Mv} {e : List Nd} (hm : mvErr m = 0) (he : treeErr e = 0) (hf : freshB m e = true) : ∃ x, movE m e = some x ∧ treeErr x = 0 ∧ movE (backM m) x = some e := by
  have h := (tree_iff e).1 he
  have fm := fresh_iff.1 hf
  obtain ⟨x, a1, a2, _, a4⟩ := mov_ex hm h.2 fm e.length (Nat.le_refl _)
  have lx : x.length = e.length := by rw [a4.length_eq, List.length_map]
  obtain ⟨y, b1, b2⟩ := ex_back hm e.length e false (Nat.le_refl _) h.2 fm e.length (Nat.le_refl _)
  rw [a1] at b1
  injection b1 with b1
  subst b1
  refine ⟨x, a1, (tree_iff x).2 ⟨by omega, a2⟩, ?_⟩
  unfold movE; rw [lx]; exact b2
/-- MoveBack, of a value. -/
theorem back_value {m : Mv} {v : List Nd} (hm : mvErr m = 0) (hv : valErr v = 0) (hf : freshB m v = true) : ∃ x, movV m v = some x ∧ valErr x = 0 ∧ movV (backM m) x = some v := by
  have h := (val_iff v).1 hv
  obtain ⟨x, a1, a2, a3, _, a4⟩ := vx_back hm h.2 h.1 (fresh_iff.1 hf) v.length (Nat.le_refl _)
  refine ⟨x, a1, (val_iff x).2 ⟨by omega, a2⟩, ?_⟩
  unfold movV; rw [a3]; exact a4
end Go.Proofs.YtnhcjpmamgdeoaaGreatDoor
