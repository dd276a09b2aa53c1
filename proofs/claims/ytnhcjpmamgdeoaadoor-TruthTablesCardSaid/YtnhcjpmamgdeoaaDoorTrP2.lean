/-
  PLAIN WORDS: what is wrong with a formula; tables, how many, alike. PLAIN LAW for TruthSplits.
-/
import Derived.Test.YtnhcjpmamgdeoaaDoorTrP
namespace Go.Proofs.YtnhcjpmamgdeoaaDoor
open Go.RowKit

/-- What is wrong with atoms, and with the nodes of a formula. -/
def atomsErr (e : List Nd) (names : List (List UInt8)) : Int :=
  if 6 < names.length then 4 else if ¬ names.Nodup then 6 else if e.all fmOp = false then 2 else if e.any (fun x => x.op == 8 && !names.contains x.s.toList) = true then 3 else 0
def frmErr (e : List Nd) (names : List (List UInt8)) : Int := if treeErr e ≠ 0 then treeErr e else atomsErr e names
def tableP (e : List Nd) (names : List (List UInt8)) : List Bool × Int := if frmErr e names ≠ 0 then ([], frmErr e names) else (tabB (evL e) names, 0)
def onesP (e : List Nd) (names : List (List UInt8)) : Nat := onesL (tableP e names).1
def alikeErr (a b : List Nd) (names : List (List UInt8)) : Int := if treeErr a ≠ 0 then treeErr a else if treeErr b ≠ 0 then treeErr b else atomsErr (a ++ b) names
def alikeB (a b : List Nd) (names : List (List UInt8)) : Bool := if alikeErr a b names ≠ 0 then false else tabB (evL a) names == tabB (evL b) names
theorem atoms_ok {e : List Nd} {names : List (List UInt8)} : atomsErr e names = 0 ↔ names.length ≤ 6 ∧ names.Nodup ∧ e.all fmOp = true ∧ e.any (fun x => x.op == 8 && !names.contains x.s.toList) = false := by
  unfold atomsErr
  constructor
  · intro h
    split at h
    · cases h
    · split at h
      · cases h
      · split at h
        · cases h
        · split at h
          · cases h
          · rename_i h1 h2 h3 h4
            exact ⟨by omega, Decidable.not_not.1 h2, by simpa using h3, by simpa using h4⟩
  · rintro ⟨h1, h2, h3, h4⟩
    rw [if_neg (by omega), if_neg (by simpa using h2), if_neg (by simp [h3]), if_neg (by rw [h4]; simp)]
theorem frm_ok {e : List Nd} {names : List (List UInt8)} : frmErr e names = 0 ↔ treeErr e = 0 ∧ atomsErr e names = 0 := by
  unfold frmErr
  by_cases h : treeErr e = 0
  · rw [if_neg (by simp [h])]; simp [h]
  · rw [if_pos h]; simp [h]
theorem frm_fm {e : List Nd} {names : List (List UInt8)} (h : frmErr e names = 0) : ∃ f : Fm, f.Ok ∧ e = f.enc := by
  have h1 := frm_ok.1 h
  exact fm_of h1.1 (atoms_ok.1 h1.2).2.2.1
theorem atoms_append {a b : List Nd} {names : List (List UInt8)} : atomsErr (a ++ b) names = 0 ↔ atomsErr a names = 0 ∧ atomsErr b names = 0 := by
  rw [atoms_ok, atoms_ok, atoms_ok]
  simp only [List.all_append, List.any_append, Bool.and_eq_true, Bool.or_eq_false_iff]
  constructor
  · rintro ⟨a, b, ⟨c, d⟩, e, f⟩; exact ⟨⟨a, b, c, e⟩, a, b, d, f⟩
  · rintro ⟨⟨a, b, c, e⟩, -, -, d, f⟩; exact ⟨a, b, ⟨c, d⟩, e, f⟩
def trN (b : Bool) : Nd := ⟨1, if b = true then 1 else 0, ⟨#[]⟩, ⟨#[]⟩⟩
theorem atoms_put {e : List Nd} {names : List (List UInt8)} {s : ByteArray} {b : Bool} (h : atomsErr e names = 0) : atomsErr (putL e s [trN b]) names = 0 := by
  have h' := atoms_ok.1 h
  refine atoms_ok.2 ⟨h'.1, h'.2.1, ?_, ?_⟩
  · rw [List.all_eq_true]
    intro x hx
    unfold putL at hx
    obtain ⟨n, hn, hx⟩ := List.mem_flatMap.1 hx
    split at hx
    · simp at hx; subst hx; rfl
    · simp at hx; subst hx; exact List.all_eq_true.1 h'.2.2.1 x hn
  · rw [List.any_eq_false]
    intro x hx
    unfold putL at hx
    obtain ⟨n, hn, hx⟩ := List.mem_flatMap.1 hx
    split at hx
    · simp at hx; subst hx; simp [trN]
    · simp at hx; subst hx; exact List.any_eq_false.1 h'.2.2.2 x hn
theorem ev_putL {e : List Nd} {names : List (List UInt8)} {s : ByteArray} (b : Bool) (h : frmErr e names = 0) (v : List UInt8 → Bool) : evL (putL e s [trN b]) v = evL e (upd v s.toList b) := by
  obtain ⟨f, hf, rfl⟩ := frm_fm h
  have hx : (trN b).op = 1 := rfl
  obtain ⟨h1, h2⟩ := put_enc (s := s) hx hf
  rw [← h2, evL_enc v h1, evL_enc _ hf, put_ev]
  congr 1
  cases b <;> rfl
theorem splits_plain {e : List Nd} {names : List (List UInt8)} {s : ByteArray} (hf : frmErr e names = 0) (hs : s.toList ∈ names) (hh : treeErr (putL e s [trN true]) = 0) (hl : treeErr (putL e s [trN false]) = 0)
    {x : Nd} {i : Nd} (hx : x.op = 8) (hxs : x.s.toList = s.toList) (hi : i.op = 13) (hit : shapedT i = true) (hxt : treeErr [x] = 0) (hlen : (putL e s [trN true]).length + (putL e s [trN false]).length + 2 ≤ 200) :
    alikeErr e (i :: x :: (putL e s [trN true] ++ putL e s [trN false])) names = 0 ∧ alikeB e (i :: x :: (putL e s [trN true] ++ putL e s [trN false])) names = true ∧
    frmErr (putL e s [trN true]) names = 0 ∧ frmErr (putL e s [trN false]) names = 0 ∧ 2 * onesP e names = onesP (putL e s [trN true]) names + onesP (putL e s [trN false]) names := by
  have h0 := frm_ok.1 hf
  have ha := atoms_ok.1 h0.2
  have aT := atoms_put (s := s) (b := true) h0.2
  have aF := atoms_put (s := s) (b := false) h0.2
  have fT : frmErr (putL e s [trN true]) names = 0 := frm_ok.2 ⟨hh, aT⟩
  have fF : frmErr (putL e s [trN false]) names = 0 := frm_ok.2 ⟨hl, aF⟩
  obtain ⟨gT, gTo, eT⟩ := frm_fm fT
  obtain ⟨gF, gFo, eF⟩ := frm_fm fF
  have eX : i :: x :: (putL e s [trN true] ++ putL e s [trN false]) = (Fm.ite i (.var x) gT gF).enc := by rw [eT, eF]; rfl
  have oX : (Fm.ite i (.var x) gT gF).Ok := ⟨hi, hx, gTo, gFo⟩
  have hex : ∀ {y : Nd} {ys : List Nd} {c : Nat}, Ex (.one false) (y :: ys) → ∀ {zs : List Nd}, Ex (.more c false ⟨#[]⟩) zs → Ex (.more (c + 1) false ⟨#[]⟩) (y :: ys ++ zs) := fun h1 _ h2 => .cons _ false _ _ _ _ (fun h => by cases h) h1 (by simpa using h2)
  have hcons : ∀ {l : List Nd} {c : Nat}, Ex (.one false) l → ∀ {zs : List Nd}, Ex (.more c false ⟨#[]⟩) zs → Ex (.more (c + 1) false ⟨#[]⟩) (l ++ zs) := by
    intro l c h1 zs h2
    cases l with
    | nil => cases h1
    | cons y ys => exact hex h1 h2
  have tX : treeErr (i :: x :: (putL e s [trN true] ++ putL e s [trN false])) = 0 := by
    refine (tree_iff _).2 ⟨by simp; omega, ?_⟩
    refine .one i _ false hit (by rw [hi]; rfl) ?_
    have hp : (ndParts i).toNat = 2 + 1 := by simp [ndParts, hi]
    rw [hp, show (i.op == 6) = false from by rw [hi]; rfl]
    have := hcons ((tree_iff _).1 hxt).2 (hcons ((tree_iff _).1 hh).2 (hcons ((tree_iff _).1 hl).2 (.nil false ⟨#[]⟩)))
    simpa using this
  have aX : atomsErr (i :: x :: (putL e s [trN true] ++ putL e s [trN false])) names = 0 := by
    have a1 : atomsErr [i, x] names = 0 := atoms_ok.2 ⟨ha.1, ha.2.1, by simp [fmOp, hi, hx], by simp [hi, hx, hxs, hs]⟩
    have := atoms_append.2 ⟨a1, atoms_append.2 ⟨aT, aF⟩⟩
    simpa using this
  have hal : alikeErr e (i :: x :: (putL e s [trN true] ++ putL e s [trN false])) names = 0 := by
    unfold alikeErr
    rw [if_neg (by simp [h0.1]), if_neg (by simp [tX])]
    exact atoms_append.2 ⟨h0.2, aX⟩
  have hevX : ∀ v, evL (i :: x :: (putL e s [trN true] ++ putL e s [trN false])) v = evL e v := by
    intro v
    rw [eX, evL_enc v oX]
    show (if v x.s.toList = true then gT.ev v else gF.ev v) = _
    rw [← evL_enc v gTo, ← evL_enc v gFo, ← eT, ← eF, ev_putL true hf, ev_putL false hf, hxs]
    cases hv : v s.toList
    · rw [if_neg (by simp)]; have := upd_self v s.toList; rw [hv] at this; rw [this]
    · rw [if_pos rfl]; have := upd_self v s.toList; rw [hv] at this; rw [this]
  refine ⟨hal, ?_, fT, fF, ?_⟩
  · unfold alikeB
    rw [if_neg (by simp [hal]), funext hevX]
    simp
  · have e1 : (tableP e names).1 = tabB (evL e) names := by unfold tableP; rw [if_neg (by simp [hf])]
    have e2 : (tableP (putL e s [trN true]) names).1 = tabB (evL (putL e s [trN true])) names := by unfold tableP; rw [if_neg (by simp [fT])]
    have e3 : (tableP (putL e s [trN false]) names).1 = tabB (evL (putL e s [trN false])) names := by unfold tableP; rw [if_neg (by simp [fF])]
    unfold onesP
    rw [e1, e2, e3, tabB_R _ ha.2.1, tabB_R _ ha.2.1, tabB_R _ ha.2.1]
    exact (split_count (s := s.toList) (fun v => ev_putL true hf v) (fun v => ev_putL false hf v) names ha.2.1 hs noneV).symm
end Go.Proofs.YtnhcjpmamgdeoaaDoor
