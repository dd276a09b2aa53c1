/-
  PLAIN WORDS: formulas: what one is, what it tells, its table.
-/
import Derived.Test.YtnhcjpmamgdeoaaDoorP
namespace Go.Proofs.YtnhcjpmamgdeoaaDoor
open Go.RowKit

/-- A formula. -/
inductive Fm where
  | lit (n : Nd)
  | var (n : Nd)
  | neg (n : Nd) (a : Fm)
  | two (n : Nd) (a b : Fm)
  | ite (n : Nd) (a b c : Fm)
def Fm.enc : Fm → List Nd
  | .lit n => [n]
  | .var n => [n]
  | .neg n a => n :: a.enc
  | .two n a b => n :: (a.enc ++ b.enc)
  | .ite n a b c => n :: (a.enc ++ (b.enc ++ c.enc))
def Fm.Ok : Fm → Prop
  | .lit n => n.op = 1
  | .var n => n.op = 8
  | .neg n a => n.op = 9 ∧ a.Ok
  | .two n a b => (n.op = 11 ∨ n.op = 12 ∨ n.op = 14) ∧ a.Ok ∧ b.Ok
  | .ite n a b c => n.op = 13 ∧ a.Ok ∧ b.Ok ∧ c.Ok
def twoB (op : Int) (a b : Bool) : Bool := if op = 11 then a && b else if op = 12 then a || b else a == b
def Fm.ev (v : List UInt8 → Bool) : Fm → Bool
  | .lit n => n.n == 1
  | .var n => v n.s.toList
  | .neg _ a => !a.ev v
  | .two n a b => twoB n.op (a.ev v) (b.ev v)
  | .ite _ a b c => if a.ev v = true then b.ev v else c.ev v
/-- A node that a formula may have. -/
def fmOp (x : Nd) : Bool := x.op == 1 || x.op == 9 || x.op == 11 || x.op == 12 || x.op == 13 || x.op == 14 || x.op == 8
theorem fmOp_cases {x : Nd} (h : fmOp x = true) : x.op = 1 ∨ x.op = 8 ∨ x.op = 9 ∨ (x.op = 11 ∨ x.op = 12 ∨ x.op = 14) ∨ x.op = 13 := by
  unfold fmOp at h
  simp only [Bool.or_eq_true, beq_iff_eq] at h
  omega
theorem fm_ex {t : BTag} {xs : List Nd} (h : Ex t xs) (ho : xs.all fmOp = true) :
    match t with
    | .one _ => ∃ f : Fm, f.Ok ∧ xs = f.enc
    | .more c _ _ => ∃ fs : List Fm, fs.length = c ∧ (∀ f ∈ fs, f.Ok) ∧ xs = fs.flatMap Fm.enc := by
  induction h with
  | one n body fld hs h7 hb ih =>
    rw [List.all_cons, Bool.and_eq_true] at ho
    obtain ⟨fs, hl, hok, rfl⟩ := ih ho.2
    rcases fmOp_cases ho.1 with h | h | h | h | h
    · have hp : ndParts n = 0 := by simp [ndParts, h]
      rw [hp] at hl
      obtain rfl := List.eq_nil_of_length_eq_zero hl
      exact ⟨.lit n, h, rfl⟩
    · have hp : ndParts n = 0 := by simp [ndParts, h]
      rw [hp] at hl
      obtain rfl := List.eq_nil_of_length_eq_zero hl
      exact ⟨.var n, h, rfl⟩
    · have hp : ndParts n = 1 := by simp [ndParts, h]
      rw [hp] at hl
      match fs, hl with
      | [a], _ => exact ⟨.neg n a, ⟨h, hok a (by simp)⟩, by simp [Fm.enc]⟩
    · have hp : ndParts n = 2 := by unfold ndParts; rcases h with h | h | h <;> simp [h]
      rw [hp] at hl
      match fs, hl with
      | [a, b], _ => exact ⟨.two n a b, ⟨h, hok a (by simp), hok b (by simp)⟩, by simp [Fm.enc]⟩
    · have hp : ndParts n = 3 := by simp [ndParts, h]
      rw [hp] at hl
      match fs, hl with
      | [a, b, c], _ => exact ⟨.ite n a b c, ⟨h, hok a (by simp), hok b (by simp), hok c (by simp)⟩, by simp [Fm.enc]⟩
  | nil r l => exact ⟨[], rfl, by simp, rfl⟩
  | cons c r l m xs ys hl hx hy ih1 ih2 =>
    rw [List.all_append, Bool.and_eq_true] at ho
    obtain ⟨f, hf, h1⟩ := ih1 ho.1
    obtain ⟨fs, hn, hok, h2⟩ := ih2 ho.2
    refine ⟨f :: fs, by simp [hn], ?_, by rw [List.flatMap_cons, ← h1, ← h2]⟩
    intro g hg
    rcases List.mem_cons.1 hg with rfl | hg
    · exact hf
    · exact hok g hg
/-- A right expression of such nodes is a formula. -/
theorem fm_of {e : List Nd} (h : treeErr e = 0) (ho : e.all fmOp = true) : ∃ f : Fm, f.Ok ∧ e = f.enc := fm_ex ((tree_iff e).1 h).2 ho

/-- What a list of nodes tells from its beginning on, and what is left. -/
def evG (v : List UInt8 → Bool) : Nat → List Nd → Bool × List Nd
  | 0, l => (false, l)
  | _ + 1, [] => (false, [])
  | k + 1, n :: l =>
    if n.op = 1 then (n.n == 1, l) else if n.op = 8 then (v n.s.toList, l)
    else if n.op = 9 then (!(evG v k l).1, (evG v k l).2)
    else if n.op = 13 then (if (evG v k l).1 = true then (evG v k (evG v k l).2).1 else (evG v k (evG v k (evG v k l).2).2).1, (evG v k (evG v k (evG v k l).2).2).2)
    else (twoB n.op (evG v k l).1 (evG v k (evG v k l).2).1, (evG v k (evG v k l).2).2)
theorem evG_enc (v : List UInt8 → Bool) (f : Fm) (hf : f.Ok) : ∀ k l, f.enc.length ≤ k → evG v k (f.enc ++ l) = (f.ev v, l) := by
  induction f with
  | lit n =>
    intro k l hk
    match k, hk with
    | k + 1, _ => have h1 : n.op = 1 := hf; simp [Fm.enc, evG, Fm.ev, h1]
  | var n =>
    intro k l hk
    match k, hk with
    | k + 1, _ => have h1 : n.op = 8 := hf; simp [Fm.enc, evG, Fm.ev, h1]
  | neg n a ih =>
    intro k l hk
    match k, hk with
    | k + 1, hk =>
      simp only [Fm.enc, List.length_cons] at hk
      have h1 := hf.1
      simp [Fm.enc, evG, Fm.ev, h1, ih hf.2 k l (by omega)]
  | two n a b iha ihb =>
    intro k l hk
    match k, hk with
    | k + 1, hk =>
      simp only [Fm.enc, List.length_cons, List.length_append] at hk
      have h1 := hf.1
      rw [Fm.enc, List.cons_append, evG, if_neg (by omega), if_neg (by omega), if_neg (by omega), if_neg (by omega), List.append_assoc, iha hf.2.1 k _ (by omega)]
      simp only [ihb hf.2.2 k l (by omega), Fm.ev]
  | ite n a b c iha ihb ihc =>
    intro k l hk
    match k, hk with
    | k + 1, hk =>
      simp only [Fm.enc, List.length_cons, List.length_append] at hk
      have h1 := hf.1
      rw [Fm.enc, List.cons_append, evG, if_neg (by omega), if_neg (by omega), if_neg (by omega), if_pos h1, List.append_assoc, iha hf.2.1 k _ (by omega)]
      simp only [List.append_assoc, ihb hf.2.2.1 k _ (by omega), ihc hf.2.2.2 k l (by omega), Fm.ev]
def evL (e : List Nd) (v : List UInt8 → Bool) : Bool := (evG v e.length e).1
theorem evL_enc (v : List UInt8 → Bool) {f : Fm} (hf : f.Ok) : evL f.enc v = f.ev v := by
  have := evG_enc v f hf f.enc.length [] (Nat.le_refl _)
  rw [List.append_nil] at this
  rw [evL, this]

/-- The names, so. -/
def upd (v : List UInt8 → Bool) (s : List UInt8) (b : Bool) : List UInt8 → Bool := fun t => if t = s then b else v t
def noneV : List UInt8 → Bool := fun _ => false
/-- The names as the bits are: the first one is the highest. -/
def vB : List (List UInt8) → (List UInt8 → Bool) → Nat → List UInt8 → Bool
  | [], v, _, t => v t
  | s :: r, v, bits, t => if t = s then bits.testBit r.length else vB r v bits t
def tabB (g : (List UInt8 → Bool) → Bool) (names : List (List UInt8)) : List Bool := (List.range (2 ^ names.length)).map fun bits => g (vB names noneV bits)
def tabR (g : (List UInt8 → Bool) → Bool) : List (List UInt8) → (List UInt8 → Bool) → List Bool
  | [], v => [g v]
  | s :: r, v => tabR g r (upd v s false) ++ tabR g r (upd v s true)
theorem tabR_len (g : (List UInt8 → Bool) → Bool) : ∀ (names : List (List UInt8)) (v : List UInt8 → Bool), (tabR g names v).length = 2 ^ names.length
  | [], _ => rfl
  | s :: r, v => by rw [tabR, List.length_append, tabR_len g r, tabR_len g r, List.length_cons, Nat.pow_succ]; omega
theorem vB_congr : ∀ (names : List (List UInt8)) (v u : List UInt8 → Bool) (bits : Nat) (t : List UInt8), v t = u t → vB names v bits t = vB names u bits t
  | [], _, _, _, _, h => h
  | s :: r, v, u, bits, t, h => by
    rw [vB, vB]; split
    · rfl
    · exact vB_congr r v u bits t h
theorem vB_not : ∀ (names : List (List UInt8)) (v : List UInt8 → Bool) (bits : Nat) (t : List UInt8), t ∉ names → vB names v bits t = v t
  | [], _, _, _, _ => rfl
  | s :: r, v, bits, t, h => by
    rw [vB, if_neg (by rintro rfl; exact h (by simp)), vB_not r v bits t (fun hh => h (by simp [hh]))]
theorem vB_bits : ∀ (names : List (List UInt8)) (v : List UInt8 → Bool) (bits b : Nat) (t : List UInt8), vB names v (2 ^ (names.length + b) + bits) t = vB names v bits t
  | [], _, _, _, _ => rfl
  | s :: r, v, bits, b, t => by
    rw [vB, vB]
    split
    · rw [List.length_cons, show r.length + 1 + b = r.length + (b + 1) from by omega, Nat.testBit_two_pow_add_gt (by omega)]
    · rw [List.length_cons, show r.length + 1 + b = r.length + (b + 1) from by omega, vB_bits r]
theorem tab_gen (g : (List UInt8 → Bool) → Bool) : ∀ (names : List (List UInt8)), names.Nodup → ∀ v, (List.range (2 ^ names.length)).map (fun bits => g (vB names v bits)) = tabR g names v
  | [], _, v => by
    show (List.range 1).map _ = _
    simp [tabR, vB, List.range_succ]
  | s :: r, hn, v => by
    have hs : s ∉ r := (List.nodup_cons.1 hn).1
    rw [tabR, ← tab_gen g r (List.nodup_cons.1 hn).2, ← tab_gen g r (List.nodup_cons.1 hn).2, List.length_cons, Nat.pow_succ, Nat.mul_two, List.range_add, List.map_append, List.map_map]
    congr 1
    · refine List.map_congr_left fun bits hb => ?_
      have hb := List.mem_range.1 hb
      refine congrArg g (funext fun t => ?_)
      rw [vB]
      split
      · rename_i h; subst h
        rw [vB_not r _ _ _ hs, Nat.testBit_lt_two_pow hb]; simp [upd]
      · rename_i h; exact vB_congr r _ _ _ _ (by simp [upd, h])
    · refine List.map_congr_left fun bits hb => ?_
      have hb := List.mem_range.1 hb
      refine congrArg g (funext fun t => ?_)
      rw [vB]
      split
      · rename_i h; subst h
        rw [vB_not r _ _ _ hs, Nat.testBit_two_pow_add_eq, Nat.testBit_lt_two_pow hb]; simp [upd]
      · rename_i h
        show vB r v (2 ^ (r.length + 0) + bits) t = _
        rw [vB_bits]
        exact vB_congr r _ _ _ _ (by simp [upd, h])
theorem tabB_R (g : (List UInt8 → Bool) → Bool) {names : List (List UInt8)} (hn : names.Nodup) : tabB g names = tabR g names noneV := tab_gen g names hn noneV
theorem tabB_len (g : (List UInt8 → Bool) → Bool) (names : List (List UInt8)) : (tabB g names).length = 2 ^ names.length := by simp [tabB]

/-- What is put for a name, told. -/
def Fm.put (s : ByteArray) (x : Nd) : Fm → Fm
  | .lit n => .lit n
  | .var n => if n.s.toList = s.toList then .lit x else .var n
  | .neg n a => .neg n (a.put s x)
  | .two n a b => .two n (a.put s x) (b.put s x)
  | .ite n a b c => .ite n (a.put s x) (b.put s x) (c.put s x)
theorem put_one {n : Nd} (h : ¬ n.op = 8) (l : List Nd) (s : ByteArray) (x : Nd) : putL (n :: l) s [x] = n :: putL l s [x] := by
  rw [putL_cons, if_neg (by unfold isVar; simp [h])]; rfl
theorem put_enc {s : ByteArray} {x : Nd} (hx : x.op = 1) : ∀ {f : Fm}, f.Ok → (f.put s x).Ok ∧ (f.put s x).enc = putL f.enc s [x]
  | .lit n, h => ⟨h, by have h1 : n.op = 1 := h; rw [Fm.enc, put_one (by omega)]; rfl⟩
  | .var n, h => by
    have h1 : n.op = 8 := h
    rw [Fm.put, Fm.enc, putL_cons, putL_nil]
    by_cases hn : n.s.toList = s.toList
    · rw [if_pos hn, if_pos (by simp [isVar, h1, hn])]; exact ⟨hx, rfl⟩
    · rw [if_neg hn, if_neg (by simp [isVar, hn])]; exact ⟨h, rfl⟩
  | .neg n a, h => by
    have ia := put_enc (s := s) hx h.2
    exact ⟨⟨h.1, ia.1⟩, by rw [Fm.put, Fm.enc, Fm.enc, put_one (by have := h.1; omega), ia.2]⟩
  | .two n a b, h => by
    have ia := put_enc (s := s) hx h.2.1
    have ib := put_enc (s := s) hx h.2.2
    exact ⟨⟨h.1, ia.1, ib.1⟩, by rw [Fm.put, Fm.enc, Fm.enc, put_one (by have := h.1; omega), ia.2, ib.2, putL_append]⟩
  | .ite n a b c, h => by
    have ia := put_enc (s := s) hx h.2.1
    have ib := put_enc (s := s) hx h.2.2.1
    have ic := put_enc (s := s) hx h.2.2.2
    exact ⟨⟨h.1, ia.1, ib.1, ic.1⟩, by rw [Fm.put, Fm.enc, Fm.enc, put_one (by have := h.1; omega), ia.2, ib.2, ic.2, putL_append, putL_append]⟩
theorem put_ev {s : ByteArray} {x : Nd} (v : List UInt8 → Bool) : ∀ (f : Fm), (f.put s x).ev v = f.ev (upd v s.toList (x.n == 1))
  | .lit n => rfl
  | .var n => by
    rw [Fm.put, Fm.ev]
    unfold upd
    split
    · rfl
    · rfl
  | .neg n a => by rw [Fm.put, Fm.ev, Fm.ev, put_ev v a]
  | .two n a b => by rw [Fm.put, Fm.ev, Fm.ev, put_ev v a, put_ev v b]
  | .ite n a b c => by rw [Fm.put, Fm.ev, Fm.ev, put_ev v a, put_ev v b, put_ev v c]

/-! How many. -/
theorem upd_comm {v : List UInt8 → Bool} {s t : List UInt8} (h : s ≠ t) (a b : Bool) : upd (upd v t a) s b = upd (upd v s b) t a := by
  funext x; unfold upd; split
  · rename_i hx; subst hx; rw [if_neg h]
  · rfl
theorem upd_same (v : List UInt8 → Bool) (s : List UInt8) (a b : Bool) : upd (upd v s a) s b = upd v s b := by
  funext x; unfold upd; split <;> rfl
theorem upd_self (v : List UInt8 → Bool) (s : List UInt8) : upd v s (v s) = v := by
  funext x; unfold upd; split
  · rename_i h; rw [h]
  · rfl
theorem tabR_upd {g h : (List UInt8 → Bool) → Bool} {s : List UInt8} {b : Bool} (hh : ∀ v, h v = g (upd v s b)) : ∀ (r : List (List UInt8)), s ∉ r → ∀ v, tabR h r v = tabR g r (upd v s b)
  | [], _, v => by rw [tabR, tabR, hh]
  | t :: r, hs, v => by
    have hst : s ≠ t := fun e => hs (by simp [e])
    have hr : s ∉ r := fun e => hs (by simp [e])
    rw [tabR, tabR, tabR_upd hh r hr, tabR_upd hh r hr, upd_comm hst, upd_comm hst]
def onesL (t : List Bool) : Nat := t.count true
theorem split_count {g gh gl : (List UInt8 → Bool) → Bool} {s : List UInt8} (hh : ∀ v, gh v = g (upd v s true)) (hl : ∀ v, gl v = g (upd v s false)) : ∀ (names : List (List UInt8)), names.Nodup → s ∈ names → ∀ v,
    onesL (tabR gh names v) + onesL (tabR gl names v) = 2 * onesL (tabR g names v)
  | [], _, h, _ => by cases h
  | t :: r, hn, h, v => by
    have hd := List.nodup_cons.1 hn
    simp only [tabR, onesL, List.count_append] at *
    by_cases hst : s = t
    · subst hst
      rw [tabR_upd hh r hd.1, tabR_upd hh r hd.1, tabR_upd hl r hd.1, tabR_upd hl r hd.1, upd_same, upd_same, upd_same, upd_same]
      omega
    · have hr : s ∈ r := by rcases List.mem_cons.1 h with h | h; exact absurd h hst; exact h
      have h1 := split_count hh hl r hd.2 hr (upd v t false)
      have h2 := split_count hh hl r hd.2 hr (upd v t true)
      simp only [onesL] at h1 h2
      omega
end Go.Proofs.YtnhcjpmamgdeoaaDoor
