/-
  THE WALKS: the printer of words: next, whole; how many words there are.
-/
import Derived.Test.YtbggbcnfkcadjaaGreatDoorPf12
import Derived.Test.YtbggbcnfkcadjaaGreatDoorPf05
namespace Go.Proofs.YtbggbcnfkcadjaaGreatDoor
set_option maxRecDepth 100000
open Go.RowKit Go.Sort
theorem ex_items {n : Nd} {ps : List (List Nd)} (hx : ExK (n.op == 6) ⟨#[]⟩ ps) (h6 : n.op ≠ 6) : ∀ p ∈ ps, Ex (.one false) p := fun p hp => by
 have := exk_all hx p hp; rwa [show (n.op == 6) = false from by simpa using h6] at this
theorem ex_flds {n : Nd} {ps : List (List Nd)} (hx : ExK (n.op == 6) ⟨#[]⟩ ps) (h6 : n.op = 6) : ∀ p ∈ ps, ∃ f v, p = f :: v ∧ f.op = 7 ∧ Ex (.one false) v := fun p hp => by
 have := exk_all hx p hp
 rw [show (n.op == 6) = true from by simp [h6]] at this
 obtain ⟨f, v, h1, h2, -, -, h3⟩ := fld_cut this
 exact ⟨f, v, h1, h2, h3⟩
theorem op_cases {n : Nd} (hs : shapedT n = true) (h7 : n.op ≠ 7) : n.op = 1 ∨ n.op = 2 ∨ n.op = 3 ∨ n.op = 4 ∨ n.op = 5 ∨ n.op = 6 ∨ n.op = 8 ∨ n.op = 9 ∨ n.op = 10 ∨ n.op = 11 ∨ n.op = 12 ∨ n.op = 13 ∨ n.op = 14 ∨ n.op = 15 ∨ n.op = 16 ∨ n.op = 17 ∨ n.op = 18 ∨ n.op = 19 ∨ n.op = 20 ∨ n.op = 21 ∨ n.op = 22 ∨ n.op = 23 ∨ n.op = 24 ∨ n.op = 25 ∨ n.op = 26 ∨ n.op = 27 := by
 apply Classical.byContradiction
 intro hno
 have hm : ndParts n = -1 := by unfold ndParts; rw [if_neg (by omega), if_neg (by omega), if_neg (by omega), if_neg (by omega), if_neg (by omega)]
 unfold shapedT at hs
 rw [hm, if_neg (by omega), if_neg (by omega), if_neg (by omega), if_neg (by omega), if_neg (by omega)] at hs
 simp at hs
theorem set_n {n : Nd} (hs : shapedT n = true) (h : n.op = 5 ∨ n.op = 6) : 0 ≤ n.n := by
 unfold shapedT at hs
 rw [if_neg (by omega), if_pos h] at hs
 simp only [Bool.and_eq_true, decide_eq_true_eq] at hs
 exact hs.1.1
theorem first_in : ∀ (N : Nat) (a : List Nd), a.length ≤ N → Ex (.one false) a → ∃ m ∈ a, lvlW m.op ≠ 7 := by
 intro N
 induction N with
 | zero => intro a hl h; cases h; simp at hl
 | succ N ih =>
   intro a hl h
   obtain ⟨n, ps, rfl, h7, hs, hc, hx⟩ := ex_cutW h
   by_cases hn : lvlW n.op = 7
   · have ho : n.op = 22 ∨ n.op = 25 ∨ n.op = 26 ∨ n.op = 27 := by
       apply Classical.byContradiction
       intro hno
       unfold lvlW at hn
       (repeat' split at hn) <;> omega
     have h6 : n.op ≠ 6 := by omega
     have hp : 0 < ps.length := by
       rw [hc]
       unfold ndParts
       rw [if_neg (by omega), if_neg (by omega)]
       split
       · decide
       · rw [if_pos (by omega)]; decide
     cases ps with
     | nil => simp at hp
     | cons p qs =>
       obtain ⟨m, hm, h1⟩ := ih p (parts_lt hl p (by simp)) (ex_items hx h6 p (by simp))
       exact ⟨m, by simp [hm], h1⟩
   · exact ⟨n, by simp, hn⟩
theorem part_len (l : Nat) (e : List Nd) : (partT l e).length ≤ (wordsW e).length + 2 := by
 unfold partT; split
 · omega
 · simp
theorem items_len : ∀ (b : Bool) (ps : List (List Nd)), (∀ p ∈ ps, (itemT p).length + 2 ≤ 10 * p.length) → (itemsT b ps).length ≤ 10 * ps.flatten.length
 | _, [], _ => by simp [itemsT]
 | b, p :: ps, h => by
   have h1 := h p (by simp)
   have h2 := items_len false ps fun q hq => h q (by simp [hq])
   simp only [itemsT, List.length_append, List.flatten_cons]
   have : (if b = true then ([] : List Tk) else [tSg [44]]).length ≤ 1 := by split <;> simp
   omega
theorem num_len (n : Int) : (numT n).length ≤ 2 := by unfold numT; split <;> simp
theorem var_len (s : ByteArray) : (varT s).length = 1 := by unfold varT; split <;> rfl
theorem words_len : ∀ (N : Nat) (xs : List Nd), xs.length ≤ N → Ex (.one false) xs → (wordsW xs).length + 5 ≤ 10 * xs.length := by
 intro N
 induction N with
 | zero => intro xs hl h; cases h; simp at hl
 | succ N ih =>
   intro xs hl h
   have h' := h
   obtain ⟨n, ps, rfl, h7, hs, hc, hx⟩ := ex_cutW h
   have h7' : n.op ≠ 7 := by simpa using h7
   rw [words_node h' hc hx]
   have hp : n.op ≠ 6 → ∀ p ∈ ps, (wordsW p).length + 5 ≤ 10 * p.length := fun h6 p hp => ih p (parts_lt hl p hp) (ex_items hx h6 p hp)
   have hnp : ∀ k, ndParts n = k → ps.length = k.toNat := fun k hk => by rw [hc, hk]
   have pl := fun l e => part_len l e
   have h1 : ndParts n = 1 → n.op ≠ 6 → ∃ a, ps = [a] ∧ (wordsW a).length + 5 ≤ 10 * a.length := fun hk h6 => by
     have := hnp 1 hk
     match ps, this with
     | [a], _ => exact ⟨a, rfl, hp h6 a (by simp)⟩
   have h2 : ndParts n = 2 → n.op ≠ 6 → ∃ a b, ps = [a, b] ∧ (wordsW a).length + 5 ≤ 10 * a.length ∧ (wordsW b).length + 5 ≤ 10 * b.length := fun hk h6 => by
     have := hnp 2 hk
     match ps, this with
     | [a, b], _ => exact ⟨a, b, rfl, hp h6 a (by simp), hp h6 b (by simp)⟩
   have h3 : ndParts n = 3 → n.op ≠ 6 → ∃ a b c, ps = [a, b, c] ∧ (wordsW a).length + 5 ≤ 10 * a.length ∧ (wordsW b).length + 5 ≤ 10 * b.length ∧ (wordsW c).length + 5 ≤ 10 * c.length := fun hk h6 => by
     have := hnp 3 hk
     match ps, this with
     | [a, b, c], _ => exact ⟨a, b, c, rfl, hp h6 a (by simp), hp h6 b (by simp), hp h6 c (by simp)⟩
   obtain ⟨op, nn, s, t⟩ := n
   simp only at *
   rcases op_cases hs h7' with rfl | rfl | rfl | rfl | rfl | rfl | rfl | rfl | rfl | rfl | rfl | rfl | rfl | rfl | rfl | rfl | rfl | rfl | rfl | rfl | rfl | rfl | rfl | rfl | rfl | rfl
   · have e : nodeT ⟨1, nn, s, t⟩ ps = [tNm (if nn = 1 then wTrue else wFalse)] := rfl
     rw [e]
     simp; omega
   · have e : nodeT ⟨2, nn, s, t⟩ ps = numT nn := rfl
     rw [e]
     have := num_len nn; simp only [List.length_cons]; omega
   · have e : nodeT ⟨3, nn, s, t⟩ ps = [⟨3, s, 0⟩] := rfl
     rw [e]
     simp; omega
   · have e : nodeT ⟨4, nn, s, t⟩ ps = [⟨1, s, 0⟩, tSg wCol, ⟨3, t, 0⟩] := rfl
     rw [e]
     simp; omega
   · have e : nodeT ⟨5, nn, s, t⟩ ps = tSg [91] :: (itemsT true ps ++ [tSg [93]]) := rfl
     rw [e]
     have := items_len true ps fun p hpp => by
       have h1 := hp (by decide) p hpp
       obtain ⟨m, qs, e1, e7, -⟩ := ex_cutW (ex_items (n := ⟨5, nn, s, t⟩) hx (show (5 : Int) ≠ 6 by decide) p hpp)
       have : itemT p = wordsW p := by unfold itemT; rw [e1, if_neg (show ¬ ((m :: qs.flatten).headD ndQ).op = 7 by simpa using e7)]
       rw [this]; omega
     simp only [List.length_cons, List.length_append, List.length_nil]; omega
   · have e : nodeT ⟨6, nn, s, t⟩ ps = tSg [123] :: (itemsT true ps ++ [tSg [125]]) := rfl
     rw [e]
     have := items_len true ps fun p hpp => by
       obtain ⟨f, v, rfl, f7, hv⟩ := ex_flds (n := ⟨6, nn, s, t⟩) hx rfl p hpp
       have hl2 := parts_lt hl _ hpp
       have h1 := ih v (by simp at hl2; omega) hv
       have : itemT (f :: v) = ⟨1, f.s, 0⟩ :: tSg [58] :: wordsW v := by unfold itemT; rw [if_pos (show ((f :: v).headD ndQ).op = 7 from f7)]; rfl
       rw [this]; simp only [List.length_cons]; omega
     simp only [List.length_cons, List.length_append, List.length_nil]; omega
   · have e : nodeT ⟨8, nn, s, t⟩ ps = varT s := rfl
     rw [e]
     have := var_len s; simp only [List.length_cons]; omega
   · obtain ⟨a, rfl, qa⟩ := h1 rfl (by decide)
     have e : nodeT ⟨9, nn, s, t⟩ [a] = tSg [33] :: partT 6 a := rfl
     rw [e]
     have pa := pl 6 a
     simp only [List.length_cons, List.length_append, List.length_nil, List.flatten_cons, List.flatten_nil]; omega
   · obtain ⟨a, rfl, qa⟩ := h1 rfl (by decide)
     have e : nodeT ⟨10, nn, s, t⟩ [a] = tSg [45] :: partT (if firstN a = true then 9 else 6) a := rfl
     rw [e]
     have pa := pl (if firstN a = true then 9 else 6) a
     simp only [List.length_cons, List.length_append, List.length_nil, List.flatten_cons, List.flatten_nil]; omega
   · obtain ⟨a, b, rfl, qa, qb⟩ := h2 rfl (by decide)
     have e : nodeT ⟨11, nn, s, t⟩ [a, b] = partT 2 a ++ tSg (btwW 11) :: partT 3 b := rfl
     rw [e]
     have pa := pl 2 a
     have pb := pl 3 b
     simp only [List.length_cons, List.length_append, List.length_nil, List.flatten_cons, List.flatten_nil]; omega
   · obtain ⟨a, b, rfl, qa, qb⟩ := h2 rfl (by decide)
     have e : nodeT ⟨12, nn, s, t⟩ [a, b] = partT 1 a ++ tSg (btwW 12) :: partT 2 b := rfl
     rw [e]
     have pa := pl 1 a
     have pb := pl 2 b
     simp only [List.length_cons, List.length_append, List.length_nil, List.flatten_cons, List.flatten_nil]; omega
   · obtain ⟨a, b, c, rfl, qa, qb, qc⟩ := h3 rfl (by decide)
     have e : nodeT ⟨13, nn, s, t⟩ [a, b, c] = tNm wIf :: (partT 0 a ++ tNm wThen :: (partT 0 b ++ tNm wElse :: partT 0 c)) := rfl
     rw [e]
     have pa := pl 0 a
     have pb := pl 0 b
     have pc := pl 0 c
     simp only [List.length_cons, List.length_append, List.length_nil, List.flatten_cons, List.flatten_nil]; omega
   · obtain ⟨a, b, rfl, qa, qb⟩ := h2 rfl (by decide)
     have e : nodeT ⟨14, nn, s, t⟩ [a, b] = partT 4 a ++ nmdW (btwW 14) :: partT 4 b := rfl
     rw [e]
     have pa := pl 4 a
     have pb := pl 4 b
     simp only [List.length_cons, List.length_append, List.length_nil, List.flatten_cons, List.flatten_nil]; omega
   · obtain ⟨a, b, rfl, qa, qb⟩ := h2 rfl (by decide)
     have e : nodeT ⟨15, nn, s, t⟩ [a, b] = partT 4 a ++ nmdW (btwW 15) :: partT 4 b := rfl
     rw [e]
     have pa := pl 4 a
     have pb := pl 4 b
     simp only [List.length_cons, List.length_append, List.length_nil, List.flatten_cons, List.flatten_nil]; omega
   · obtain ⟨a, b, rfl, qa, qb⟩ := h2 rfl (by decide)
     have e : nodeT ⟨16, nn, s, t⟩ [a, b] = partT 4 a ++ nmdW (btwW 16) :: partT 4 b := rfl
     rw [e]
     have pa := pl 4 a
     have pb := pl 4 b
     simp only [List.length_cons, List.length_append, List.length_nil, List.flatten_cons, List.flatten_nil]; omega
   · obtain ⟨a, b, rfl, qa, qb⟩ := h2 rfl (by decide)
     have e : nodeT ⟨17, nn, s, t⟩ [a, b] = partT 4 a ++ tSg (btwW 17) :: partT 5 b := rfl
     rw [e]
     have pa := pl 4 a
     have pb := pl 5 b
     simp only [List.length_cons, List.length_append, List.length_nil, List.flatten_cons, List.flatten_nil]; omega
   · obtain ⟨a, b, rfl, qa, qb⟩ := h2 rfl (by decide)
     have e : nodeT ⟨18, nn, s, t⟩ [a, b] = partT 4 a ++ tSg (btwW 18) :: partT 5 b := rfl
     rw [e]
     have pa := pl 4 a
     have pb := pl 5 b
     simp only [List.length_cons, List.length_append, List.length_nil, List.flatten_cons, List.flatten_nil]; omega
   · obtain ⟨a, b, rfl, qa, qb⟩ := h2 rfl (by decide)
     have e : nodeT ⟨19, nn, s, t⟩ [a, b] = partT 5 a ++ tSg (btwW 19) :: partT 6 b := rfl
     rw [e]
     have pa := pl 5 a
     have pb := pl 6 b
     simp only [List.length_cons, List.length_append, List.length_nil, List.flatten_cons, List.flatten_nil]; omega
   · obtain ⟨a, b, rfl, qa, qb⟩ := h2 rfl (by decide)
     have e : nodeT ⟨20, nn, s, t⟩ [a, b] = partT 4 a ++ nmdW (btwW 20) :: partT 4 b := rfl
     rw [e]
     have pa := pl 4 a
     have pb := pl 4 b
     simp only [List.length_cons, List.length_append, List.length_nil, List.flatten_cons, List.flatten_nil]; omega
   · obtain ⟨a, rfl, qa⟩ := h1 rfl (by decide)
     have e : nodeT ⟨21, nn, s, t⟩ [a] = partT 4 a ++ [nmdW (btwW 21), ⟨1, s, 0⟩] := rfl
     rw [e]
     have pa := pl 4 a
     simp only [List.length_cons, List.length_append, List.length_nil, List.flatten_cons, List.flatten_nil]; omega
   · obtain ⟨a, rfl, qa⟩ := h1 rfl (by decide)
     have e : nodeT ⟨22, nn, s, t⟩ [a] = partT 7 a ++ [tSg [46], ⟨1, s, 0⟩] := rfl
     rw [e]
     have pa := pl 7 a
     simp only [List.length_cons, List.length_append, List.length_nil, List.flatten_cons, List.flatten_nil]; omega
   · obtain ⟨a, rfl, qa⟩ := h1 rfl (by decide)
     have e : nodeT ⟨23, nn, s, t⟩ [a] = partT 4 a ++ [nmdW (btwW 23), ⟨3, s, 0⟩] := rfl
     rw [e]
     have pa := pl 4 a
     simp only [List.length_cons, List.length_append, List.length_nil, List.flatten_cons, List.flatten_nil]; omega
   · obtain ⟨a, rfl, qa⟩ := h1 rfl (by decide)
     have e : nodeT ⟨24, nn, s, t⟩ [a] = partT 4 a ++ [nmdW (btwW 24), ⟨1, s, 0⟩] := rfl
     rw [e]
     have pa := pl 4 a
     simp only [List.length_cons, List.length_append, List.length_nil, List.flatten_cons, List.flatten_nil]; omega
   · obtain ⟨a, b, rfl, qa, qb⟩ := h2 rfl (by decide)
     have e : nodeT ⟨25, nn, s, t⟩ [a, b] = partT 7 a ++ tSg [46] :: nmdW (btwW 25) :: tSg [40] :: (partT 0 b ++ [tSg [41]]) := rfl
     rw [e]
     have pa := pl 7 a
     have pb := pl 0 b
     simp only [List.length_cons, List.length_append, List.length_nil, List.flatten_cons, List.flatten_nil]; omega
   · obtain ⟨a, b, rfl, qa, qb⟩ := h2 rfl (by decide)
     have e : nodeT ⟨26, nn, s, t⟩ [a, b] = partT 7 a ++ tSg [46] :: nmdW (btwW 26) :: tSg [40] :: (partT 0 b ++ [tSg [41]]) := rfl
     rw [e]
     have pa := pl 7 a
     have pb := pl 0 b
     simp only [List.length_cons, List.length_append, List.length_nil, List.flatten_cons, List.flatten_nil]; omega
   · obtain ⟨a, b, rfl, qa, qb⟩ := h2 rfl (by decide)
     have e : nodeT ⟨27, nn, s, t⟩ [a, b] = partT 7 a ++ tSg [46] :: nmdW (btwW 27) :: tSg [40] :: (partT 0 b ++ [tSg [41]]) := rfl
     rw [e]
     have pa := pl 7 a
     have pb := pl 0 b
     simp only [List.length_cons, List.length_append, List.length_nil, List.flatten_cons, List.flatten_nil]; omega
theorem neg_next (pb : Nat) (a : List Nd) (he : Ex (.one false) a) (ha : NextOk pb a) (nn : Int) (s t : ByteArray) : Prints pb 22 (⟨10, nn, s, t⟩ :: a) (tSg [45] :: partT (if firstN a = true then 9 else 6) a) := by
 obtain ⟨k, m, hf⟩ := first_ex (first_in _ a (Nat.le_refl _) he)
 have hne := ex_nonil he
 exact nx_10 pb nn s t a _ (pr_negative pb a k m hf (pr_part pb 9 a hne ha) (pr_part pb 6 a hne ha))
theorem next_all (pb : Nat) : ∀ (N : Nat) (xs : List Nd), N ≤ 1000 → xs.length ≤ N → Ex (.one false) xs → NumK xs → NextOk pb xs := by
 intro N
 induction N with
 | zero => intro xs _ hl h; cases h; simp at hl
 | succ N ih =>
   intro xs hN hl h hk
   have h' := h
   obtain ⟨n, ps, rfl, h7, hs, hc, hx⟩ := ex_cutW h
   have h7' : n.op ≠ 7 := by simpa using h7
   have hw := words_node h' hc hx
   have hkp : ∀ p ∈ ps, NumK p := fun p hp x hxp h2 => hk x (by simp only [List.mem_cons, List.mem_flatten]; exact .inr ⟨p, hp, hxp⟩) h2
   have hp : n.op ≠ 6 → ∀ p ∈ ps, Ex (.one false) p ∧ NextOk pb p := fun h6 p hp => ⟨ex_items hx h6 p hp, ih p (by omega) (parts_lt hl p hp) (ex_items hx h6 p hp) (hkp p hp)⟩
   have hnp : ∀ k, ndParts n = k → ps.length = k.toNat := fun k hk => by rw [hc, hk]
   have hpl : ps.length ≤ N := by
     have : ps.length ≤ ps.flatten.length := by
       have hne : ∀ p ∈ ps, 1 ≤ p.length := fun p hp => by
         have := exk_all hx p hp
         have := ex_nonil this
         cases p with
         | nil => exact absurd rfl this
         | cons a q => simp
       clear hw hc hx hl h h' hkp hp hnp hk
       induction ps with
       | nil => simp
       | cons p ps ih2 =>
         have h1 := hne p (by simp)
         have h2 := ih2 (fun q hq => hne q (by simp [hq]))
         simp only [List.length_cons, List.flatten_cons, List.length_append]; omega
     rw [List.length_cons] at hl; omega
   have h1 : ndParts n = 1 → n.op ≠ 6 → ∃ a, ps = [a] ∧ Ex (.one false) a ∧ NextOk pb a := fun hk h6 => by
     have := hnp 1 hk
     match ps, this with
     | [a], _ => exact ⟨a, rfl, hp h6 a (by simp)⟩
   have h2 : ndParts n = 2 → n.op ≠ 6 → ∃ a b, ps = [a, b] ∧ (Ex (.one false) a ∧ NextOk pb a) ∧ (Ex (.one false) b ∧ NextOk pb b) := fun hk h6 => by
     have := hnp 2 hk
     match ps, this with
     | [a, b], _ => exact ⟨a, b, rfl, hp h6 a (by simp), hp h6 b (by simp)⟩
   have h3 : ndParts n = 3 → n.op ≠ 6 → ∃ a b c, ps = [a, b, c] ∧ (Ex (.one false) a ∧ NextOk pb a) ∧ (Ex (.one false) b ∧ NextOk pb b) ∧ (Ex (.one false) c ∧ NextOk pb c) := fun hk h6 => by
     have := hnp 3 hk
     match ps, this with
     | [a, b, c], _ => exact ⟨a, b, c, rfl, hp h6 a (by simp), hp h6 b (by simp), hp h6 c (by simp)⟩
   unfold NextOk
   rw [hw]
   clear hw
   obtain ⟨op, nn, s, t⟩ := n
   simp only at *
   rcases op_cases hs h7' with rfl | rfl | rfl | rfl | rfl | rfl | rfl | rfl | rfl | rfl | rfl | rfl | rfl | rfl | rfl | rfl | rfl | rfl | rfl | rfl | rfl | rfl | rfl | rfl | rfl | rfl
   · have e : nodeT ⟨1, nn, s, t⟩ ps = [tNm (if nn = 1 then wTrue else wFalse)] := rfl
     obtain rfl : ps = [] := List.length_eq_zero_iff.1 (hnp 0 rfl)
     rw [e]
     exact nx_1 pb nn s t [] _ (at_1 pb nn s t)
   · have e : nodeT ⟨2, nn, s, t⟩ ps = numT nn := rfl
     obtain rfl : ps = [] := List.length_eq_zero_iff.1 (hnp 0 rfl)
     rw [e]
     exact nx_2 pb nn s t [] _ (at_2 pb nn s t (hk ⟨2, nn, s, t⟩ (by simp) rfl).1 (hk ⟨2, nn, s, t⟩ (by simp) rfl).2)
   · have e : nodeT ⟨3, nn, s, t⟩ ps = [⟨3, s, 0⟩] := rfl
     obtain rfl : ps = [] := List.length_eq_zero_iff.1 (hnp 0 rfl)
     rw [e]
     exact nx_3 pb nn s t [] _ (at_3 pb nn s t)
   · have e : nodeT ⟨4, nn, s, t⟩ ps = [⟨1, s, 0⟩, tSg wCol, ⟨3, t, 0⟩] := rfl
     obtain rfl : ps = [] := List.length_eq_zero_iff.1 (hnp 0 rfl)
     rw [e]
     exact nx_4 pb nn s t [] _ (at_4 pb nn s t)
   · have e : nodeT ⟨5, nn, s, t⟩ ps = tSg [91] :: (itemsT true ps ++ [tSg [93]]) := rfl
     rw [e]
     have h0 : 0 ≤ nn := set_n hs (by simp)
     have hnn : nn = ps.length := by have : ps.length = nn.toNat := hnp nn rfl; omega
     refine nx_5 pb nn s t _ _ (at_5 pb nn s t ps (fun p hpp => ?_) (by omega) hnn)
     obtain ⟨g1, g2⟩ := hp (by decide) p hpp
     obtain ⟨m, qs, e1, e7, -⟩ := ex_cutW g1
     exact .inl ⟨m, qs.flatten, e1, by simpa using e7, g2⟩
   · have e : nodeT ⟨6, nn, s, t⟩ ps = tSg [123] :: (itemsT true ps ++ [tSg [125]]) := rfl
     rw [e]
     have h0 : 0 ≤ nn := set_n hs (by simp)
     have hnn : nn = ps.length := by have : ps.length = nn.toNat := hnp nn rfl; omega
     refine nx_6 pb nn s t _ _ (at_6 pb nn s t ps (fun p hpp => ?_) (by omega) hnn)
     obtain ⟨f, v, rfl, f7, hv⟩ := ex_flds (n := ⟨6, nn, s, t⟩) hx rfl p hpp
     have hl2 := parts_lt hl _ hpp
     have hok := ih v (by omega) (by simp at hl2; omega) hv (fun x hxv h2 => hkp _ hpp x (by simp [hxv]) h2)
     have hne := ex_nonil hv
     cases v with
     | nil => exact absurd rfl hne
     | cons m q => exact .inr ⟨f, m, q, rfl, f7, hok⟩
   · have e : nodeT ⟨8, nn, s, t⟩ ps = varT s := rfl
     obtain rfl : ps = [] := List.length_eq_zero_iff.1 (hnp 0 rfl)
     rw [e]
     exact nx_8 pb nn s t [] _ (at_8 pb nn s t)
   · obtain ⟨a, rfl, ⟨xa, qa⟩⟩ := h1 rfl (by decide)
     have e : nodeT ⟨9, nn, s, t⟩ [a] = tSg [33] :: partT 6 a := rfl
     rw [e, show [a].flatten = a by simp]
     exact nx_not pb nn s t a (pr_part pb 6 a (ex_nonil xa) qa)
   · obtain ⟨a, rfl, ⟨xa, qa⟩⟩ := h1 rfl (by decide)
     have e : nodeT ⟨10, nn, s, t⟩ [a] = tSg [45] :: partT (if firstN a = true then 9 else 6) a := rfl
     rw [e, show [a].flatten = a by simp]
     exact neg_next pb a xa qa nn s t
   · obtain ⟨a, b, rfl, ⟨xa, qa⟩, ⟨xb, qb⟩⟩ := h2 rfl (by decide)
     have e : nodeT ⟨11, nn, s, t⟩ [a, b] = partT 2 a ++ tSg (btwW 11) :: partT 3 b := rfl
     rw [e, show [a, b].flatten = a ++ b by simp]
     exact nx_11 pb nn s t a b (pr_part pb 2 a (ex_nonil xa) qa) (pr_part pb 3 b (ex_nonil xb) qb)
   · obtain ⟨a, b, rfl, ⟨xa, qa⟩, ⟨xb, qb⟩⟩ := h2 rfl (by decide)
     have e : nodeT ⟨12, nn, s, t⟩ [a, b] = partT 1 a ++ tSg (btwW 12) :: partT 2 b := rfl
     rw [e, show [a, b].flatten = a ++ b by simp]
     exact nx_12 pb nn s t a b (pr_part pb 1 a (ex_nonil xa) qa) (pr_part pb 2 b (ex_nonil xb) qb)
   · obtain ⟨a, b, c, rfl, ⟨xa, qa⟩, ⟨xb, qb⟩, ⟨xc, qc⟩⟩ := h3 rfl (by decide)
     have e : nodeT ⟨13, nn, s, t⟩ [a, b, c] = tNm wIf :: (partT 0 a ++ tNm wThen :: (partT 0 b ++ tNm wElse :: partT 0 c)) := rfl
     rw [e, show [a, b, c].flatten = a ++ b ++ c by simp]
     exact nx_13 pb nn s t a b c (pr_part pb 0 a (ex_nonil xa) qa) (pr_part pb 0 b (ex_nonil xb) qb) (pr_part pb 0 c (ex_nonil xc) qc)
   · obtain ⟨a, b, rfl, ⟨xa, qa⟩, ⟨xb, qb⟩⟩ := h2 rfl (by decide)
     have e : nodeT ⟨14, nn, s, t⟩ [a, b] = partT 4 a ++ nmdW (btwW 14) :: partT 4 b := rfl
     rw [e, show [a, b].flatten = a ++ b by simp]
     exact nx_14 pb nn s t a b (pr_part pb 4 a (ex_nonil xa) qa) (pr_part pb 4 b (ex_nonil xb) qb)
   · obtain ⟨a, b, rfl, ⟨xa, qa⟩, ⟨xb, qb⟩⟩ := h2 rfl (by decide)
     have e : nodeT ⟨15, nn, s, t⟩ [a, b] = partT 4 a ++ nmdW (btwW 15) :: partT 4 b := rfl
     rw [e, show [a, b].flatten = a ++ b by simp]
     exact nx_15 pb nn s t a b (pr_part pb 4 a (ex_nonil xa) qa) (pr_part pb 4 b (ex_nonil xb) qb)
   · obtain ⟨a, b, rfl, ⟨xa, qa⟩, ⟨xb, qb⟩⟩ := h2 rfl (by decide)
     have e : nodeT ⟨16, nn, s, t⟩ [a, b] = partT 4 a ++ nmdW (btwW 16) :: partT 4 b := rfl
     rw [e, show [a, b].flatten = a ++ b by simp]
     exact nx_16 pb nn s t a b (pr_part pb 4 a (ex_nonil xa) qa) (pr_part pb 4 b (ex_nonil xb) qb)
   · obtain ⟨a, b, rfl, ⟨xa, qa⟩, ⟨xb, qb⟩⟩ := h2 rfl (by decide)
     have e : nodeT ⟨17, nn, s, t⟩ [a, b] = partT 4 a ++ tSg (btwW 17) :: partT 5 b := rfl
     rw [e, show [a, b].flatten = a ++ b by simp]
     exact nx_17 pb nn s t a b (pr_part pb 4 a (ex_nonil xa) qa) (pr_part pb 5 b (ex_nonil xb) qb)
   · obtain ⟨a, b, rfl, ⟨xa, qa⟩, ⟨xb, qb⟩⟩ := h2 rfl (by decide)
     have e : nodeT ⟨18, nn, s, t⟩ [a, b] = partT 4 a ++ tSg (btwW 18) :: partT 5 b := rfl
     rw [e, show [a, b].flatten = a ++ b by simp]
     exact nx_18 pb nn s t a b (pr_part pb 4 a (ex_nonil xa) qa) (pr_part pb 5 b (ex_nonil xb) qb)
   · obtain ⟨a, b, rfl, ⟨xa, qa⟩, ⟨xb, qb⟩⟩ := h2 rfl (by decide)
     have e : nodeT ⟨19, nn, s, t⟩ [a, b] = partT 5 a ++ tSg (btwW 19) :: partT 6 b := rfl
     rw [e, show [a, b].flatten = a ++ b by simp]
     exact nx_19 pb nn s t a b (pr_part pb 5 a (ex_nonil xa) qa) (pr_part pb 6 b (ex_nonil xb) qb)
   · obtain ⟨a, b, rfl, ⟨xa, qa⟩, ⟨xb, qb⟩⟩ := h2 rfl (by decide)
     have e : nodeT ⟨20, nn, s, t⟩ [a, b] = partT 4 a ++ nmdW (btwW 20) :: partT 4 b := rfl
     rw [e, show [a, b].flatten = a ++ b by simp]
     exact nx_20 pb nn s t a b (pr_part pb 4 a (ex_nonil xa) qa) (pr_part pb 4 b (ex_nonil xb) qb)
   · obtain ⟨a, rfl, ⟨xa, qa⟩⟩ := h1 rfl (by decide)
     have e : nodeT ⟨21, nn, s, t⟩ [a] = partT 4 a ++ [nmdW (btwW 21), ⟨1, s, 0⟩] := rfl
     rw [e, show [a].flatten = a by simp]
     exact nx_21 pb nn s t a (pr_part pb 4 a (ex_nonil xa) qa)
   · obtain ⟨a, rfl, ⟨xa, qa⟩⟩ := h1 rfl (by decide)
     have e : nodeT ⟨22, nn, s, t⟩ [a] = partT 7 a ++ [tSg [46], ⟨1, s, 0⟩] := rfl
     rw [e, show [a].flatten = a by simp]
     exact nx_22 pb nn s t a (pr_part pb 7 a (ex_nonil xa) qa)
   · obtain ⟨a, rfl, ⟨xa, qa⟩⟩ := h1 rfl (by decide)
     have e : nodeT ⟨23, nn, s, t⟩ [a] = partT 4 a ++ [nmdW (btwW 23), ⟨3, s, 0⟩] := rfl
     rw [e, show [a].flatten = a by simp]
     exact nx_23 pb nn s t a (pr_part pb 4 a (ex_nonil xa) qa)
   · obtain ⟨a, rfl, ⟨xa, qa⟩⟩ := h1 rfl (by decide)
     have e : nodeT ⟨24, nn, s, t⟩ [a] = partT 4 a ++ [nmdW (btwW 24), ⟨1, s, 0⟩] := rfl
     rw [e, show [a].flatten = a by simp]
     exact nx_24 pb nn s t a (pr_part pb 4 a (ex_nonil xa) qa)
   · obtain ⟨a, b, rfl, ⟨xa, qa⟩, ⟨xb, qb⟩⟩ := h2 rfl (by decide)
     have e : nodeT ⟨25, nn, s, t⟩ [a, b] = partT 7 a ++ tSg [46] :: nmdW (btwW 25) :: tSg [40] :: (partT 0 b ++ [tSg [41]]) := rfl
     rw [e, show [a, b].flatten = a ++ b by simp]
     exact nx_25 pb nn s t a b (pr_part pb 7 a (ex_nonil xa) qa) (pr_part pb 0 b (ex_nonil xb) qb)
   · obtain ⟨a, b, rfl, ⟨xa, qa⟩, ⟨xb, qb⟩⟩ := h2 rfl (by decide)
     have e : nodeT ⟨26, nn, s, t⟩ [a, b] = partT 7 a ++ tSg [46] :: nmdW (btwW 26) :: tSg [40] :: (partT 0 b ++ [tSg [41]]) := rfl
     rw [e, show [a, b].flatten = a ++ b by simp]
     exact nx_26 pb nn s t a b (pr_part pb 7 a (ex_nonil xa) qa) (pr_part pb 0 b (ex_nonil xb) qb)
   · obtain ⟨a, b, rfl, ⟨xa, qa⟩, ⟨xb, qb⟩⟩ := h2 rfl (by decide)
     have e : nodeT ⟨27, nn, s, t⟩ [a, b] = partT 7 a ++ tSg [46] :: nmdW (btwW 27) :: tSg [40] :: (partT 0 b ++ [tSg [41]]) := rfl
     rw [e, show [a, b].flatten = a ++ b by simp]
     exact nx_27 pb nn s t a b (pr_part pb 7 a (ex_nonil xa) qa) (pr_part pb 0 b (ex_nonil xb) qb)
end Go.Proofs.YtbggbcnfkcadjaaGreatDoor
