/-
  PLAIN WORDS: the parser of phrases, on lists of words. PLAIN LAWS: fuel; what stands behind.
  PLAIN LAWS: the parser of phrases: fuel; what it read stays read with other words behind.
  PLAIN LAWS: the parser of phrases: what it read stays read with other words behind; where it stops, what stands ahead can go on; fuel that is enough.
  PLAIN LAWS: the parser of phrases as a whole: what stands behind; as soon as can be; fuel that is enough.
-/
import Derived.Test.YtbggbcnfkcadjaaGreatDoorPe03
import Derived.Test.YtbggbcnfkcadjaaGreatDoorPe01
import Derived.Lib.ParseIntB
namespace Go.Proofs.YtbggbcnfkcadjaaGreatDoor
open Go.RowKit
inductive Pr where
 | ok (e : List Nd) (r : List Tk)
 | bad (k : Int) (r : List Tk)
def Pr.bind (x : Pr) (g : List Nd → List Tk → Pr) : Pr := match x with
 | .ok e r => g e r
 | .bad k r => .bad k r
def isW (s : List UInt8) (t : Tk) : Bool := (t.kind == 1 || t.kind == 5) && t.s.toList == s
def isN (s : List UInt8) (t : Tk) : Bool := t.kind == 1 && t.s.toList == s
def isS (s : List UInt8) (t : Tk) : Bool := t.kind == 5 && t.s.toList == s
def hdW (s : List UInt8) : List Tk → Bool
 | [] => false
 | t :: _ => isW s t
def hdN (s : List UInt8) : List Tk → Bool
 | [] => false
 | t :: _ => isN s t
def hdS (s : List UInt8) : List Tk → Bool
 | [] => false
 | t :: _ => isS s t
def hdK (k : Int) : List Tk → Bool
 | [] => false
 | t :: _ => t.kind == k
def tokR (c : Tk → Bool) (r : List Tk) (g : Tk → List Tk → Pr) : Pr := match r with
 | [] => .bad 1 []
 | t :: r' => if c t = true then g t r' else .bad 1 (t :: r')
def needR (s : List UInt8) (r : List Tk) (g : List Tk → Pr) : Pr := tokR (isS s) r fun _ r => g r
def needN (s : List UInt8) (r : List Tk) (g : List Tk → Pr) : Pr := tokR (isN s) r fun _ r => g r
def wordR (k : Int) (r : List Tk) (g : ByteArray → List Tk → Pr) : Pr := tokR (fun t => t.kind == k) r fun t r => g t.s r
def opX (o : Int) (e : List Nd) : List Nd := ⟨o, 0, ⟨#[]⟩, ⟨#[]⟩⟩ :: e
def opS (o : Int) (s : ByteArray) (e : List Nd) : List Nd := ⟨o, 0, s, ⟨#[]⟩⟩ :: e
def numX (n : Int) : Nd := ⟨2, n, ⟨#[]⟩, ⟨#[]⟩⟩
def chOp (l : Nat) (t : Tk) : Int :=
 if t.kind ≠ 5 then 0 else
 if l = 1 then (if t.s.toList = [124, 124] then 12 else 0)
 else if l = 2 then (if t.s.toList = [38, 38] then 11 else 0)
 else if l = 4 then (if t.s.toList = [43] then 17 else if t.s.toList = [45] then 18 else 0)
 else (if t.s.toList = [42] then 19 else 0)
def dotOp (s : List UInt8) : Int :=
 if s = [99, 111, 110, 116, 97, 105, 110, 115] then 25
 else if s = [99, 111, 110, 116, 97, 105, 110, 115, 65, 108, 108] then 26
 else if s = [99, 111, 110, 116, 97, 105, 110, 115, 65, 110, 121] then 27 else 0
def relOp (r : List Tk) : Int :=
 if hdS [61, 61] r = true then 14 else if hdS [60] r = true then 15 else if hdS [60, 61] r = true then 16 else if hdN [105, 110] r = true then 20 else 0
def relWd (r : List Tk) : Int :=
 if hdN [104, 97, 115] r = true then 21 else if hdN [105, 115] r = true then 24 else if hdN [108, 105, 107, 101] r = true then 23 else 0
def numW (l : List UInt8) : Option Int := match Lib.parseIntB 64 l with
 | .ok v => some v
 | _ => none
inductive PT where
 | whole | rel | sign | atom
 | ch (l : Nat)
 | lp (l : Nat) (e : List Nd)
 | po (e : List Nd)
 | se (ps : List (List Nd))
 | re (ps : List (List Nd)) (last : ByteArray)
def subT (l : Nat) : PT := if l = 1 then .ch 2 else if l = 2 then .rel else if l = 4 then .ch 5 else .sign
def wIf : List UInt8 := [105, 102]
def wThen : List UInt8 := [116, 104, 101, 110]
def wElse : List UInt8 := [101, 108, 115, 101]
def wCol : List UInt8 := [58, 58]
def wTrue : List UInt8 := [116, 114, 117, 101]
def wFalse : List UInt8 := [102, 97, 108, 115, 101]
def numA (l : List UInt8) (ts r : List Tk) : Pr := match numW l with
 | some n => .ok [numX n] r
 | none => .bad 5 ts
def minusR (r : List Tk) : Pr := match r with
 | [] => .bad 1 []
 | u :: r' => if u.kind = 2 then numA (45 :: u.s.toList) (u :: r') r' else .bad 1 (u :: r')
def atomR (wh se re : List Tk → Pr) (ts : List Tk) : Pr := match ts with
 | [] => .bad 1 []
 | t :: r =>
   if t.kind = 2 then numA t.s.toList (t :: r) r
   else if t.kind = 3 then .ok [⟨3, 0, t.s, ⟨#[]⟩⟩] r
   else if t.kind = 4 then .ok [⟨8, 0, bsOf (63 :: t.s.toList), ⟨#[]⟩⟩] r
   else if t.kind = 1 then
     if hdS wCol r = true then wordR 3 r.tail fun s r2 => .ok [⟨4, 0, t.s, s⟩] r2
     else if t.s.toList = wTrue then .ok [⟨1, 1, ⟨#[]⟩, ⟨#[]⟩⟩] r
     else if t.s.toList = wFalse then .ok [⟨1, 0, ⟨#[]⟩, ⟨#[]⟩⟩] r
     else if reserved t.s.toList = true then .bad 1 r
     else .ok [⟨8, 0, t.s, ⟨#[]⟩⟩] r
   else if isS [45] t = true then minusR r
   else if isS [40] t = true then (wh r).bind fun e r2 => needR [41] r2 fun r3 => .ok e r3
   else if isS [91] t = true then se r
   else if isS [123] t = true then re r
   else .bad 1 (t :: r)
def pa : Nat → PT → List Tk → Pr
 | 0, _, ts => .bad 0 ts
 | f + 1, .whole, ts =>
   if hdN wIf ts = true ∧ hdS wCol ts.tail = false then
     (pa f .whole ts.tail).bind fun c r => needN wThen r fun r => (pa f .whole r).bind fun a r => needN wElse r fun r => (pa f .whole r).bind fun b r => .ok (opX 13 (c ++ a ++ b)) r
   else pa f (.ch 1) ts
 | f + 1, .ch l, ts => (pa f (subT l) ts).bind fun e r => pa f (.lp l e) r
 | f + 1, .lp l e, ts => match ts with
   | [] => .ok e []
   | t :: r => if chOp l t = 0 then .ok e (t :: r) else (pa f (subT l) r).bind fun e2 r2 => pa f (.lp l (opX (chOp l t) (e ++ e2))) r2
 | f + 1, .rel, ts => (pa f (.ch 4) ts).bind fun e r =>
   if relOp r ≠ 0 then (pa f (.ch 4) r.tail).bind fun e2 r2 => .ok (opX (relOp r) (e ++ e2)) r2
   else if relWd r ≠ 0 then wordR (if relWd r = 23 then 3 else 1) r.tail fun s r2 => .ok (opS (relWd r) s e) r2
   else .ok e r
 | f + 1, .sign, ts =>
   if hdS [33] ts = true then (pa f .sign ts.tail).bind fun e r => .ok (opX 9 e) r
   else if hdS [45] ts = true ∧ hdK 2 ts.tail = false then (pa f .sign ts.tail).bind fun e r => .ok (opX 10 e) r
   else (pa f .atom ts).bind fun e r => pa f (.po e) r
 | f + 1, .po e, ts =>
   if hdS [46] ts = true then wordR 1 ts.tail fun s r =>
     if dotOp s.toList = 0 ∨ hdS [40] r = false then pa f (.po (opS 22 s e)) r
     else (pa f .whole r.tail).bind fun e2 r2 => needR [41] r2 fun r3 => pa f (.po (opX (dotOp s.toList) (e ++ e2))) r3
   else .ok e ts
 | f + 1, .atom, ts => atomR (pa f .whole) (pa f (.se [])) (pa f (.re [] ⟨#[]⟩)) ts
 | f + 1, .se ps, ts =>
   if hdS [93] ts = true then .ok (⟨5, ps.length, ⟨#[]⟩, ⟨#[]⟩⟩ :: ps.flatten) ts.tail
   else if ps = [] then (pa f .whole ts).bind fun e r => pa f (.se (ps ++ [e])) r
   else needR [44] ts fun r => (pa f .whole r).bind fun e r => pa f (.se (ps ++ [e])) r
 | f + 1, .re ps last, ts =>
   if hdS [125] ts = true then .ok (⟨6, ps.length, ⟨#[]⟩, ⟨#[]⟩⟩ :: ps.flatten) ts.tail
   else
     let go := fun r : List Tk => tokR (fun t => t.kind == 1 && !sLate last t.s) r fun t r1 => needR [58] r1 fun r2 => (pa f .whole r2).bind fun e r3 => pa f (.re (ps ++ [opS 7 t.s e]) t.s) r3
     if ps = [] then go ts else needR [44] ts go
end Go.Proofs.YtbggbcnfkcadjaaGreatDoor
namespace Go.Proofs.YtbggbcnfkcadjaaGreatDoor
open Go.RowKit
def LeP (p p' : List Tk → Pr) : Prop := ∀ ts, (∀ r, p ts ≠ .bad 0 r) → p' ts = p ts
theorem LeP.refl (p : List Tk → Pr) : LeP p p := fun _ _ => rfl
theorem LeP.bind {x x' : List Tk → Pr} {g g' : List Nd → List Tk → Pr} (h : LeP x x') (hg : ∀ e, LeP (g e) (g' e)) : LeP (fun ts => (x ts).bind g) (fun ts => (x' ts).bind g') := by
 intro ts hn
 have h1 : ∀ r, x ts ≠ .bad 0 r := by intro r hr; exact hn r (by show (x ts).bind g = _; rw [hr]; rfl)
 show (x' ts).bind g' = (x ts).bind g
 rw [h ts h1]
 cases hx : x ts with
 | bad k r => rfl
 | ok e r =>
   refine hg e r fun q hq => hn q ?_
   show (x ts).bind g = _
   rw [hx]; exact hq
theorem LeP.tok {c : Tk → Bool} {g g' : Tk → List Tk → Pr} (hg : ∀ t, LeP (g t) (g' t)) : LeP (fun ts => tokR c ts g) (fun ts => tokR c ts g') := by
 intro ts hn
 cases ts with
 | nil => rfl
 | cons t r =>
   show (if c t = true then g' t r else _) = if c t = true then g t r else _
   by_cases hc : c t = true
   · rw [if_pos hc, if_pos hc]
     refine hg t r fun q hq => hn q ?_
     show (if c t = true then g t r else _) = _
     rw [if_pos hc]; exact hq
   · rw [if_neg hc, if_neg hc]
theorem LeP.ite {c : List Tk → Prop} [∀ ts, Decidable (c ts)] {p q p' q' : List Tk → Pr} (h1 : LeP p p') (h2 : LeP q q') : LeP (fun ts => if c ts then p ts else q ts) (fun ts => if c ts then p' ts else q' ts) := by
 intro ts hn
 by_cases hc : c ts
 · have : ∀ r, p ts ≠ .bad 0 r := fun r hr => hn r (by show (if c ts then p ts else q ts) = _; rw [if_pos hc]; exact hr)
   show (if c ts then p' ts else q' ts) = if c ts then p ts else q ts
   rw [if_pos hc, if_pos hc]; exact h1 ts this
 · have : ∀ r, q ts ≠ .bad 0 r := fun r hr => hn r (by show (if c ts then p ts else q ts) = _; rw [if_neg hc]; exact hr)
   show (if c ts then p' ts else q' ts) = if c ts then p ts else q ts
   rw [if_neg hc, if_neg hc]; exact h2 ts this
theorem LeP.tail {p p' : List Tk → Pr} (h : LeP p p') : LeP (fun ts => p ts.tail) (fun ts => p' ts.tail) := fun ts hn => h ts.tail hn
theorem LeP.atom {wh se re wh' se' re' : List Tk → Pr} (h1 : LeP wh wh') (h2 : LeP se se') (h3 : LeP re re') : LeP (atomR wh se re) (atomR wh' se' re') := by
 intro ts hn
 cases ts with
 | nil => rfl
 | cons t r =>
   unfold atomR at hn ⊢
   dsimp only at hn ⊢
   split
   · rfl
   split
   · rfl
   split
   · rfl
   split
   · rfl
   split
   · rfl
   rename_i h2' h3' h4' h1' h5'
   rw [if_neg h2', if_neg h3', if_neg h4', if_neg h1', if_neg h5'] at hn
   split
   · rename_i h6; rw [if_pos h6] at hn
     exact (h1.bind fun e => LeP.tok (c := isS [41]) fun _ => LeP.refl fun r3 => .ok e r3) r hn
   rename_i h6; rw [if_neg h6] at hn
   split
   · rename_i h7; rw [if_pos h7] at hn; exact h2 r hn
   rename_i h7; rw [if_neg h7] at hn
   split
   · rename_i h8; rw [if_pos h8] at hn; exact h3 r hn
   rfl
theorem pa_mono : ∀ (f : Nat) (t : PT), LeP (pa f t) (pa (f + 1) t) := by
 intro f
 induction f with
 | zero => intro t ts hn; exact absurd rfl (hn ts)
 | succ f ih =>
   intro t
   cases t with
   | whole =>
     have := LeP.ite (c := fun ts => hdN wIf ts = true ∧ hdS wCol ts.tail = false) (LeP.tail ((ih .whole).bind fun c => LeP.tok (c := isN wThen) fun _ => (ih .whole).bind fun a => LeP.tok (c := isN wElse) fun _ => (ih .whole).bind fun b => LeP.refl fun r => .ok (opX 13 (c ++ a ++ b)) r)) (ih (.ch 1))
     exact this
   | ch l => exact (ih (subT l)).bind fun e => ih (.lp l e)
   | lp l e =>
     intro ts hn
     cases ts with
     | nil => rfl
     | cons t r =>
       simp only [pa] at hn ⊢
       by_cases hc : chOp l t = 0
       · rw [if_pos hc, if_pos hc]
       · rw [if_neg hc] at hn ⊢
         rw [if_neg hc]
         exact ((ih (subT l)).bind fun e2 => ih (.lp l (opX (chOp l t) (e ++ e2)))) r hn
   | rel =>
     have := (ih (.ch 4)).bind (g := fun e r => if relOp r ≠ 0 then (pa f (.ch 4) r.tail).bind fun e2 r2 => .ok (opX (relOp r) (e ++ e2)) r2
       else if relWd r ≠ 0 then wordR (if relWd r = 23 then 3 else 1) r.tail fun s r2 => .ok (opS (relWd r) s e) r2
       else .ok e r) (g' := fun e r => if relOp r ≠ 0 then (pa (f + 1) (.ch 4) r.tail).bind fun e2 r2 => .ok (opX (relOp r) (e ++ e2)) r2
       else if relWd r ≠ 0 then wordR (if relWd r = 23 then 3 else 1) r.tail fun s r2 => .ok (opS (relWd r) s e) r2
       else .ok e r) ?_
     · exact this
     · intro e r hn
       dsimp only at hn ⊢
       by_cases hc : relOp r ≠ 0
       · rw [if_pos hc] at hn ⊢
         rw [if_pos hc]
         exact ((ih (.ch 4)).bind fun e2 => LeP.refl fun r2 => .ok (opX (relOp r) (e ++ e2)) r2) r.tail hn
       · rw [if_neg hc, if_neg hc]
   | sign =>
     have := LeP.ite (c := fun ts => hdS [33] ts = true) (LeP.tail ((ih .sign).bind fun e => LeP.refl fun r => .ok (opX 9 e) r)) (LeP.ite (c := fun ts => hdS [45] ts = true ∧ hdK 2 ts.tail = false) (LeP.tail ((ih .sign).bind fun e => LeP.refl fun r => .ok (opX 10 e) r)) ((ih .atom).bind fun e => ih (.po e)))
     exact this
   | po e =>
     have := LeP.ite (c := fun ts => hdS [46] ts = true) (LeP.tail (LeP.tok (c := fun t => t.kind == 1) fun t => LeP.ite (c := fun r => dotOp t.s.toList = 0 ∨ hdS [40] r = false) (ih (.po (opS 22 t.s e))) (LeP.tail ((ih .whole).bind fun e2 => LeP.tok (c := isS [41]) fun _ => ih (.po (opX (dotOp t.s.toList) (e ++ e2))))))) (LeP.refl fun ts => .ok e ts)
     exact this
   | atom => exact LeP.atom (ih .whole) (ih (.se [])) (ih (.re [] ⟨#[]⟩))
   | se ps =>
     have := LeP.ite (c := fun ts => hdS [93] ts = true) (LeP.refl fun ts => .ok (⟨5, ps.length, ⟨#[]⟩, ⟨#[]⟩⟩ :: ps.flatten) ts.tail) (LeP.ite (c := fun _ => ps = []) ((ih .whole).bind fun e => ih (.se (ps ++ [e]))) (LeP.tok (c := isS [44]) fun _ => (ih .whole).bind fun e => ih (.se (ps ++ [e]))))
     exact this
   | re ps last =>
     have hgo := LeP.tok (c := fun t => t.kind == 1 && !sLate last t.s) fun t => LeP.tok (c := isS [58]) fun _ => (ih .whole).bind fun e => ih (.re (ps ++ [opS 7 t.s e]) t.s)
     have := LeP.ite (c := fun ts => hdS [125] ts = true) (LeP.refl fun ts => .ok (⟨6, ps.length, ⟨#[]⟩, ⟨#[]⟩⟩ :: ps.flatten) ts.tail) (LeP.ite (c := fun _ => ps = []) hgo (LeP.tok (c := isS [44]) fun _ => hgo))
     exact this
theorem pa_more {f f' : Nat} (h : f ≤ f') {t : PT} {ts : List Tk} (hn : ∀ r, pa f t ts ≠ .bad 0 r) : pa f' t ts = pa f t ts := by
 induction h with
 | refl => rfl
 | step _ ih => rw [pa_mono _ _ _ (by rw [ih]; exact hn), ih]
def ShR (n : Nat) (ts : List Tk) : Pr → Prop
 | .ok _ r => ∃ pre, ts = pre ++ r ∧ n ≤ pre.length
 | .bad _ r => ∃ pre, ts = pre ++ r
def ShP (n : Nat) (p : List Tk → Pr) : Prop := ∀ ts, ShR n ts (p ts)
theorem ShP.mono {n m : Nat} {p : List Tk → Pr} (h : ShP n p) (hm : m ≤ n) : ShP m p := by
 intro ts
 have := h ts
 show ShR m ts (p ts)
 cases hx : p ts with
 | ok e r => rw [hx] at this; obtain ⟨pre, h1, h2⟩ := this; exact ⟨pre, h1, by omega⟩
 | bad k r => rw [hx] at this; exact this
theorem ShP.bind {n m : Nat} {x : List Tk → Pr} {g : List Nd → List Tk → Pr} (h : ShP n x) (hg : ∀ e, ShP m (g e)) : ShP (n + m) (fun ts => (x ts).bind g) := by
 intro ts
 have h1 := h ts
 show ShR (n + m) ts ((x ts).bind g)
 cases hx : x ts with
 | bad k r => rw [hx] at h1; exact h1
 | ok e r =>
   rw [hx] at h1
   obtain ⟨pre, rfl, hp⟩ := h1
   have h2 := hg e r
   show ShR (n + m) _ (g e r)
   cases hy : g e r with
   | ok e2 r2 => rw [hy] at h2; obtain ⟨p2, rfl, hp2⟩ := h2; exact ⟨pre ++ p2, by simp, by simp; omega⟩
   | bad k r2 => rw [hy] at h2; obtain ⟨p2, rfl⟩ := h2; exact ⟨pre ++ p2, by simp⟩
theorem ShP.ok (e : List Nd) : ShP 0 (fun ts => .ok e ts) := fun _ => ⟨[], rfl, Nat.le_refl _⟩
theorem ShP.tok {n : Nat} {c : Tk → Bool} {g : Tk → List Tk → Pr} (hg : ∀ t, ShP n (g t)) : ShP (n + 1) (fun ts => tokR c ts g) := by
 intro ts
 cases ts with
 | nil => exact ⟨[], rfl⟩
 | cons t r =>
   show ShR (n + 1) (t :: r) (if c t = true then g t r else .bad 1 (t :: r))
   by_cases hc : c t = true
   · rw [if_pos hc]
     have h2 := hg t r
     cases hy : g t r with
     | ok e2 r2 => rw [hy] at h2; obtain ⟨p2, rfl, hp2⟩ := h2; exact ⟨t :: p2, by simp, by simp; omega⟩
     | bad k r2 => rw [hy] at h2; obtain ⟨p2, rfl⟩ := h2; exact ⟨t :: p2, by simp⟩
   · rw [if_neg hc]; exact ⟨[], rfl⟩
theorem ShP.ite {n : Nat} {c : List Tk → Prop} [∀ ts, Decidable (c ts)] {p q : List Tk → Pr} (h1 : ShP n p) (h2 : ShP n q) : ShP n (fun ts => if c ts then p ts else q ts) := by
 intro ts
 show ShR n ts (if c ts then p ts else q ts)
 by_cases hc : c ts
 · rw [if_pos hc]; exact h1 ts
 · rw [if_neg hc]; exact h2 ts
theorem ShP.tail {n : Nat} {p : List Tk → Pr} (h : ShP n p) : ShP n (fun ts => p ts.tail) := by
 intro ts
 cases ts with
 | nil => exact h []
 | cons t r =>
   have h2 := h r
   show ShR n (t :: r) (p r)
   cases hy : p r with
   | ok e2 r2 => rw [hy] at h2; obtain ⟨p2, rfl, hp2⟩ := h2; exact ⟨t :: p2, by simp, by simp; omega⟩
   | bad k r2 => rw [hy] at h2; obtain ⟨p2, rfl⟩ := h2; exact ⟨t :: p2, by simp⟩
theorem ShP.atom {wh se re : List Tk → Pr} (h1 : ShP 1 wh) (h2 : ShP 0 se) (h3 : ShP 0 re) : ShP 1 (atomR wh se re) := by
 intro ts
 cases ts with
 | nil => exact ⟨[], rfl⟩
 | cons t r =>
   have one : ∀ e, ShR 1 (t :: r) (.ok e r) := fun e => ⟨[t], rfl, Nat.le_refl _⟩
   have lift : ∀ {x : Pr}, ShR 0 r x → ShR 1 (t :: r) x := by
     intro x hx
     cases x with
     | ok e q => obtain ⟨pre, h, _⟩ := hx; exact ⟨t :: pre, by simp [h], by simp⟩
     | bad k q => obtain ⟨pre, h⟩ := hx; exact ⟨t :: pre, by simp [h]⟩
   show ShR 1 (t :: r) _
   unfold atomR
   dsimp only
   split
   · unfold numA
     split
     · exact one _
     · exact ⟨[], rfl⟩
   split
   · exact one _
   split
   · exact one _
   split
   · split
     · exact lift ((ShP.tail ((ShP.tok (c := fun t => t.kind == 3) fun u => ShP.ok [⟨4, 0, t.s, u.s⟩]).mono (Nat.zero_le _))) r)
     split
     · exact one _
     split
     · exact one _
     split
     · exact ⟨[t], rfl⟩
     · exact one _
   split
   · cases r with
     | nil => exact ⟨[t], rfl⟩
     | cons u r' =>
       unfold minusR
       dsimp only
       split
       · unfold numA
         split
         · exact ⟨[t, u], rfl, by simp⟩
         · exact ⟨[t], rfl⟩
       · exact ⟨[t], rfl⟩
   split
   · exact lift (((h1.bind fun e => ShP.tok (c := isS [41]) fun _ => ShP.ok e).mono (Nat.zero_le _)) r)
   split
   · exact lift (h2 r)
   split
   · exact lift (h3 r)
   · exact ⟨[], rfl⟩
def PT.starts : PT → Nat
 | .whole => 1 | .rel => 1 | .sign => 1 | .atom => 1 | .ch _ => 1 | _ => 0
theorem subT_starts (l : Nat) : (subT l).starts = 1 := by unfold subT; (repeat' split) <;> rfl
theorem pa_sh : ∀ (f : Nat) (t : PT), ShP t.starts (pa f t) := by
 intro f
 induction f with
 | zero => intro t ts; exact ⟨[], rfl⟩
 | succ f ih =>
   intro t
   cases t with
   | whole =>
     have := ShP.ite (c := fun ts => hdN wIf ts = true ∧ hdS wCol ts.tail = false) (n := 1) (ShP.tail (((ih .whole).bind fun c => ShP.tok (c := isN wThen) fun _ => (ih .whole).bind fun a => ShP.tok (c := isN wElse) fun _ => (ih .whole).bind fun b => ShP.ok (opX 13 (c ++ a ++ b))).mono (by decide))) (ih (.ch 1))
     exact this
   | ch l =>
     have := (ih (subT l)).bind fun e => ih (.lp l e)
     rw [subT_starts] at this
     exact this
   | lp l e =>
     intro ts
     cases ts with
     | nil => exact ⟨[], rfl, Nat.le_refl _⟩
     | cons t r =>
       simp only [pa]
       by_cases hc : chOp l t = 0
       · rw [if_pos hc]; exact ⟨[], rfl, Nat.le_refl _⟩
       · rw [if_neg hc]
         exact (ShP.tail (((ih (subT l)).bind fun e2 => ih (.lp l (opX (chOp l t) (e ++ e2)))).mono (Nat.zero_le _))) (t :: r)
   | rel =>
     have : ShP 1 (fun ts => (pa f (.ch 4) ts).bind (fun e r => if relOp r ≠ 0 then (pa f (.ch 4) r.tail).bind fun e2 r2 => .ok (opX (relOp r) (e ++ e2)) r2
       else if relWd r ≠ 0 then wordR (if relWd r = 23 then 3 else 1) r.tail fun s r2 => .ok (opS (relWd r) s e) r2
       else .ok e r)) := ((ih (.ch 4)).bind (m := 0) ?_)
     · exact this
     · intro e r
       dsimp only
       by_cases hc : relOp r ≠ 0
       · rw [if_pos hc]
         exact (ShP.tail (((ih (.ch 4)).bind fun e2 => ShP.ok (opX (relOp r) (e ++ e2))).mono (Nat.zero_le _))) r
       · rw [if_neg hc]
         by_cases hd : relWd r ≠ 0
         · rw [if_pos hd]
           exact (ShP.tail ((ShP.tok (c := fun t => t.kind == (if relWd r = 23 then 3 else 1)) fun t => ShP.ok (opS (relWd r) t.s e)).mono (Nat.zero_le _))) r
         · rw [if_neg hd]; exact ⟨[], rfl, Nat.le_refl _⟩
   | sign =>
     have := ShP.ite (c := fun ts => hdS [33] ts = true) (n := 1) (ShP.tail ((ih .sign).bind fun e => ShP.ok (opX 9 e))) (ShP.ite (c := fun ts => hdS [45] ts = true ∧ hdK 2 ts.tail = false) (ShP.tail ((ih .sign).bind fun e => ShP.ok (opX 10 e))) ((ih .atom).bind fun e => ih (.po e)))
     exact this
   | po e =>
     have := ShP.ite (c := fun ts => hdS [46] ts = true) (n := 0) (ShP.tail ((ShP.tok (c := fun t => t.kind == 1) fun t => ShP.ite (c := fun r => dotOp t.s.toList = 0 ∨ hdS [40] r = false) (n := 0) (ih (.po (opS 22 t.s e))) (ShP.tail (((ih .whole).bind fun e2 => ShP.tok (c := isS [41]) fun _ => ih (.po (opX (dotOp t.s.toList) (e ++ e2)))).mono (Nat.zero_le _)))).mono (Nat.zero_le _))) (ShP.ok e)
     exact this
   | atom => exact ShP.atom (ih .whole) (ih (.se [])) (ih (.re [] ⟨#[]⟩))
   | se ps =>
     have := ShP.ite (c := fun ts => hdS [93] ts = true) (n := 0) (ShP.tail (ShP.ok (⟨5, ps.length, ⟨#[]⟩, ⟨#[]⟩⟩ :: ps.flatten))) (ShP.ite (c := fun _ => ps = []) (((ih .whole).bind fun e => ih (.se (ps ++ [e]))).mono (Nat.zero_le _)) ((ShP.tok (c := isS [44]) fun _ => (ih .whole).bind fun e => ih (.se (ps ++ [e]))).mono (Nat.zero_le _)))
     exact this
   | re ps last =>
     have hgo := (ShP.tok (c := fun t => t.kind == 1 && !sLate last t.s) fun t => ShP.tok (c := isS [58]) fun _ => (ih .whole).bind fun e => ih (.re (ps ++ [opS 7 t.s e]) t.s)).mono (Nat.zero_le _)
     have := ShP.ite (c := fun ts => hdS [125] ts = true) (n := 0) (ShP.tail (ShP.ok (⟨6, ps.length, ⟨#[]⟩, ⟨#[]⟩⟩ :: ps.flatten))) (ShP.ite (c := fun _ => ps = []) hgo ((ShP.tok (c := isS [44]) fun _ => hgo).mono (Nat.zero_le _)))
     exact this
end Go.Proofs.YtbggbcnfkcadjaaGreatDoor
namespace Go.Proofs.YtbggbcnfkcadjaaGreatDoor
open Go.RowKit
def rpT (t : Tk) : Prop := t.kind = 5 ∧ t.s.toList = [41]
def Lk (r r' : List Tk) : Prop := r' = [] ∨ r'.head? = r.head? ∨ ∃ t q, r' = t :: q ∧ rpT t
theorem Lk.app {r r' : List Tk} (h : Lk r r') (pre : List Tk) : Lk (pre ++ r) (pre ++ r') := by
 cases pre with
 | nil => exact h
 | cons t q => exact .inr (.inl rfl)
theorem Lk.cut (pre r : List Tk) : Lk (pre ++ r) pre := by
 cases pre with
 | nil => exact .inl rfl
 | cons t q => exact .inr (.inl rfl)
theorem Lk.head {r r' : List Tk} (h : r'.head? = r.head?) : Lk r r' := .inr (.inl h)
def AtEnd (x : Pr) : Prop := (∃ e, x = .ok e []) ∨ x = .bad 1 [] ∨ ∃ r, x = .bad 0 r
def WfR (p : List Tk → Pr) (ts : List Tk) : Pr → Prop
 | .ok e r => ∃ pre, ts = pre ++ r ∧ ∀ r', Lk r r' → p (pre ++ r') = .ok e r'
 | .bad k r => k ≠ 0 → r ≠ [] → ∃ pre, ts = pre ++ r ∧ (∀ r', r'.head? = r.head? → p (pre ++ r') = .bad k r') ∧ AtEnd (p pre)
structure Wf (p : List Tk → Pr) : Prop where
 run : ∀ ts, WfR p ts (p ts)
 nil : AtEnd (p [])
theorem Wf.ok (e : List Nd) : Wf (fun ts => .ok e ts) := ⟨fun _ => ⟨[], rfl, fun _ _ => rfl⟩, .inl ⟨e, rfl⟩⟩
theorem Wf.bind {x : List Tk → Pr} {g : List Nd → List Tk → Pr} (hx : Wf x) (hg : ∀ e, Wf (g e)) : Wf (fun ts => (x ts).bind g) := by
 constructor
 · intro ts
   have h1 := hx.run ts
   show WfR _ ts ((x ts).bind g)
   cases hxt : x ts with
   | bad k r =>
     rw [hxt] at h1
     intro k0 r0
     obtain ⟨pre, e, hh, hp⟩ := h1 k0 r0
     refine ⟨pre, e, fun r' hr => by show (x (pre ++ r')).bind g = _; rw [hh r' hr]; rfl, ?_⟩
     show AtEnd ((x pre).bind g)
     rcases hp with ⟨e, he⟩ | he | ⟨r, he⟩ <;> rw [he]
     · exact (hg e).nil
     · exact .inr (.inl rfl)
     · exact .inr (.inr ⟨r, rfl⟩)
   | ok e r =>
     rw [hxt] at h1
     obtain ⟨pre, rfl, hh⟩ := h1
     have h2 := (hg e).run r
     show WfR _ _ (g e r)
     cases hy : g e r with
     | ok e2 r2 =>
       rw [hy] at h2
       obtain ⟨p2, rfl, hh2⟩ := h2
       refine ⟨pre ++ p2, by simp, fun r' hl => ?_⟩
       show (x (pre ++ p2 ++ r')).bind g = _
       rw [List.append_assoc, hh (p2 ++ r') (hl.app p2)]
       exact hh2 r' hl
     | bad k r2 =>
       rw [hy] at h2
       intro k0 r0
       obtain ⟨p2, rfl, hh2, he⟩ := h2 k0 r0
       refine ⟨pre ++ p2, by simp, fun r' hr => ?_, ?_⟩
       · show (x (pre ++ p2 ++ r')).bind g = _
         rw [List.append_assoc, hh (p2 ++ r') ((Lk.head hr).app p2)]
         exact hh2 r' hr
       · show AtEnd ((x (pre ++ p2)).bind g)
         rw [hh p2 (Lk.cut p2 r2)]
         exact he
 · show AtEnd ((x []).bind g)
   rcases hx.nil with ⟨e, he⟩ | he | ⟨r, he⟩ <;> rw [he]
   · exact (hg e).nil
   · exact .inr (.inl rfl)
   · exact .inr (.inr ⟨r, rfl⟩)
theorem WfR.cons {p q : List Tk → Pr} {t : Tk} {r : List Tk} {x : Pr} (h : WfR q r x) (hq : ∀ r', (r' = [] ∨ r'.head? = r.head? ∨ ∃ u w, r' = u :: w ∧ rpT u) → p (t :: r') = q r') : WfR p (t :: r) x := by
 cases x with
 | ok e s =>
   obtain ⟨pre, rfl, hh⟩ := h
   refine ⟨t :: pre, rfl, fun r' hl => ?_⟩
   show p (t :: (pre ++ r')) = _
   rw [hq _ (hl.app pre)]; exact hh r' hl
 | bad k s =>
   intro k0 r0
   obtain ⟨pre, rfl, hh, he⟩ := h k0 r0
   refine ⟨t :: pre, rfl, fun r' hr => ?_, ?_⟩
   · show p (t :: (pre ++ r')) = _
     rw [hq _ ((Lk.head hr).app pre)]; exact hh r' hr
   · rw [hq _ (Lk.cut pre s)]; exact he
theorem Wf.tok {c : Tk → Bool} {g : Tk → List Tk → Pr} (hg : ∀ t, Wf (g t)) : Wf (fun ts => tokR c ts g) := by
 constructor
 · intro ts
   cases ts with
   | nil => intro _ h; exact absurd rfl h
   | cons t r =>
     show WfR _ _ (if c t = true then g t r else .bad 1 (t :: r))
     by_cases hc : c t = true
     · rw [if_pos hc]
       refine ((hg t).run r).cons fun r' _ => ?_
       show (if c t = true then g t r' else _) = _
       rw [if_pos hc]
     · rw [if_neg hc]
       intro _ _
       refine ⟨[], rfl, fun r' hr => ?_, .inr (.inl rfl)⟩
       cases r' with
       | nil => simp at hr
       | cons u w =>
         simp at hr; subst hr
         show (if c u = true then g u w else _) = _
         rw [if_neg hc]
 · exact .inr (.inl rfl)
theorem WfR.same {p q : List Tk → Pr} {ts : List Tk} {x : Pr} (h : WfR q ts x) (h1 : ∀ r', ts.head? = r'.head? → p r' = q r') (h2 : ∀ t r, rpT t → p (t :: r) = q (t :: r)) (h3 : p [] = q []) : WfR p ts x := by
 cases x with
 | ok e s =>
   obtain ⟨pre, rfl, hh⟩ := h
   refine ⟨pre, rfl, fun r' hl => ?_⟩
   cases pre with
   | nil =>
     have := hh r' hl
     rcases hl with rfl | hl | ⟨t, w, rfl, ht⟩
     · rw [List.nil_append, h3]; exact this
     · rw [List.nil_append, h1 _ hl.symm]; exact this
     · rw [List.nil_append, h2 t w ht]; exact this
   | cons t w => rw [h1 (t :: w ++ r') rfl]; exact hh r' hl
 | bad k s =>
   intro k0 r0
   obtain ⟨pre, rfl, hh, he⟩ := h k0 r0
   refine ⟨pre, rfl, fun r' hr => ?_, ?_⟩
   · rw [h1 (pre ++ r') ?_]
     · exact hh r' hr
     · cases pre with
       | nil => exact hr.symm
       | cons t w => rfl
   · cases pre with
     | nil => rw [h3]; exact he
     | cons t w => rw [h1 (t :: w) rfl]; exact he
theorem Wf.ifTok {p : List Tk → Pr} {c : Tk → Bool} {A : Tk → List Tk → Pr} {B : List Tk → Pr} (hA : ∀ t r, c t = true → p (t :: r) = A t r) (hB : ∀ t r, c t = false → p (t :: r) = B (t :: r)) (hN : p [] = B [])
   (hs : ∀ t, rpT t → c t = false) (wA : ∀ t, c t = true → Wf (A t)) (wB : Wf B) : Wf p := by
 constructor
 · intro ts
   cases ts with
   | nil =>
     rw [hN]
     refine (wB.run []).same (fun r' hr => ?_) (fun t r ht => hB t r (hs t ht)) hN
     cases r' with
     | nil => exact hN
     | cons t w => simp at hr
   | cons t r =>
     cases hc : c t
     · rw [hB t r hc]
       refine (wB.run (t :: r)).same (fun r' hr => ?_) (fun t r ht => hB t r (hs t ht)) hN
       cases r' with
       | nil => simp at hr
       | cons u w => simp at hr; subst hr; exact hB t w hc
     · rw [hA t r hc]
       exact ((wA t hc).run r).cons fun r' _ => hA t r' hc
 · rw [hN]; exact wB.nil
theorem Wf.if2 {p A B : List Tk → Pr} {c1 : Tk → Bool} {c2 : List Tk → Bool} (h2n : c2 [] = false) (h2h : ∀ r r' : List Tk, r.head? = r'.head? → c2 r = c2 r') (h2s : ∀ t r, rpT t → c2 (t :: r) = false) (h1s : ∀ t, rpT t → c1 t = false)
   (hA : ∀ t r, c1 t = true → c2 r = false → p (t :: r) = A r) (hB : ∀ t r, (c1 t = false ∨ c2 r = true) → p (t :: r) = B (t :: r)) (hN : p [] = B []) (wA : Wf A) (wB : Wf B)
   (e4 : ∀ t r, c1 t = true → c2 r = true → match B (t :: r) with | .ok _ q => q.length + 1 ≤ r.length | .bad k q => k ≠ 0 → q.length ≤ r.length) : Wf p := by
 constructor
 · intro ts
   cases ts with
   | nil =>
     rw [hN]
     refine (wB.run []).same (fun r' hr => ?_) (fun t r ht => hB t r (.inl (h1s t ht))) hN
     cases r' with
     | nil => exact hN
     | cons t w => simp at hr
   | cons t r =>
     cases hc : c1 t
     · rw [hB t r (.inl hc)]
       refine (wB.run (t :: r)).same (fun r' hr => ?_) (fun t r ht => hB t r (.inl (h1s t ht))) hN
       cases r' with
       | nil => simp at hr
       | cons u w => simp at hr; subst hr; exact hB t w (.inl hc)
     · cases hd : c2 r
       · rw [hA t r hc hd]
         refine (wA.run r).cons fun r' hr => hA t r' hc ?_
         rcases hr with rfl | hr | ⟨u, w, rfl, hu⟩
         · exact h2n
         · rw [h2h r' r hr]; exact hd
         · exact h2s u w hu
       · have h4 := e4 t r hc hd
         rw [hB t r (.inr hd)]
         have h5 := wB.run (t :: r)
         cases hy : B (t :: r) with
         | ok e s =>
           rw [hy] at h4 h5
           obtain ⟨pre, e1, hh⟩ := h5
           refine ⟨pre, e1, fun r' hl => ?_⟩
           rcases pre with _ | ⟨a, pre⟩
           · rw [List.nil_append] at e1; rw [← e1] at h4; simp at h4; omega
           · injection e1 with e1 e2
             subst e1 e2
             rcases pre with _ | ⟨b, pre⟩
             · simp at h4; omega
             · show p (t :: (b :: pre ++ r')) = _
               rw [hB t _ (.inr ((h2h (b :: pre ++ r') ((b :: pre).append s) rfl).trans hd))]
               exact hh r' hl
         | bad k s =>
           rw [hy] at h4 h5
           intro k0 r0
           have h4 := h4 k0
           obtain ⟨pre, e1, hh, he⟩ := h5 k0 r0
           refine ⟨pre, e1, fun r' hr => ?_, ?_⟩
           · rcases pre with _ | ⟨a, pre⟩
             · rw [List.nil_append] at e1; rw [← e1] at h4; simp at h4; omega
             · injection e1 with e1 e2
               subst e1 e2
               show p (t :: (pre ++ r')) = _
               rw [hB t _ (.inr ?_)]
               · exact hh r' hr
               · rw [h2h _ (pre ++ s)]
                 · exact hd
                 · cases pre with
                   | nil => exact hr
                   | cons b q => rfl
           · rcases pre with _ | ⟨a, pre⟩
             · rw [List.nil_append] at e1; rw [← e1] at h4; simp at h4; omega
             · injection e1 with e1 e2
               subst e1 e2
               rcases pre with _ | ⟨b, pre⟩
               · rw [hA t [] hc h2n]; exact wA.nil
               · rw [hB t _ (.inr ((h2h (b :: pre) ((b :: pre).append s) rfl).trans hd))]
                 exact he
 · rw [hN]; exact wB.nil
theorem rp_not {t : Tk} (h : rpT t) {s : List UInt8} (hs : s ≠ [41]) : isS s t = false ∧ isN s t = false := by
 obtain ⟨h1, h2⟩ := h
 unfold isS isN
 rw [h1, h2]
 constructor
 · simp; intro e; exact hs e.symm
 · simp
theorem Wf.atom {wh se re : List Tk → Pr} (h1 : Wf wh) (h2 : Wf se) (h3 : Wf re) : Wf (atomR wh se re) := by
 constructor
 · intro ts
   cases ts with
   | nil => intro _ h; exact absurd rfl h
   | cons t r =>
     have one : ∀ e, (∀ r', Lk r r' → atomR wh se re (t :: r') = .ok e r') → WfR (atomR wh se re) (t :: r) (.ok e r) := fun e h => ⟨[t], rfl, h⟩
     have zero : ∀ k, (∀ r', atomR wh se re (t :: r') = .bad k (t :: r')) → WfR (atomR wh se re) (t :: r) (.bad k (t :: r)) := fun k h _ _ => ⟨[], rfl, fun r' hr => by
       cases r' with
       | nil => simp at hr
       | cons u w => simp at hr; subst hr; exact h w, .inr (.inl rfl)⟩
     by_cases k2 : t.kind = 2
     · have hq : ∀ r', atomR wh se re (t :: r') = numA t.s.toList (t :: r') r' := fun r' => by unfold atomR; dsimp only; rw [if_pos k2]
       rw [hq]
       unfold numA
       cases hn : numW t.s.toList with
       | some n => exact one _ fun r' _ => by rw [hq, numA, hn]
       | none => exact zero _ fun r' => by rw [hq, numA, hn]
     by_cases k3 : t.kind = 3
     · have hq : ∀ r', atomR wh se re (t :: r') = .ok [⟨3, 0, t.s, ⟨#[]⟩⟩] r' := fun r' => by unfold atomR; dsimp only; rw [if_neg k2, if_pos k3]
       rw [hq]; exact one _ fun r' _ => hq r'
     by_cases k4 : t.kind = 4
     · have hq : ∀ r', atomR wh se re (t :: r') = .ok [⟨8, 0, bsOf (63 :: t.s.toList), ⟨#[]⟩⟩] r' := fun r' => by unfold atomR; dsimp only; rw [if_neg k2, if_neg k3, if_pos k4]
       rw [hq]; exact one _ fun r' _ => hq r'
     by_cases k1 : t.kind = 1
     · have hq : ∀ r', atomR wh se re (t :: r') = if hdS wCol r' = true then wordR 3 r'.tail fun s r2 => .ok [⟨4, 0, t.s, s⟩] r2
         else if t.s.toList = wTrue then .ok [⟨1, 1, ⟨#[]⟩, ⟨#[]⟩⟩] r' else if t.s.toList = wFalse then .ok [⟨1, 0, ⟨#[]⟩, ⟨#[]⟩⟩] r'
         else if reserved t.s.toList = true then .bad 1 r' else .ok [⟨8, 0, t.s, ⟨#[]⟩⟩] r' := fun r' => by unfold atomR; dsimp only; rw [if_neg k2, if_neg k3, if_neg k4, if_pos k1]
       have hl : ∀ r', hdS wCol r = false → Lk r r' → hdS wCol r' = false := by
         intro r' hc hl
         rcases hl with rfl | hl | ⟨u, w, rfl, hu⟩
         · rfl
         · cases r' with
           | nil => rfl
           | cons u w => cases r with
             | nil => simp at hl
             | cons v x => simp at hl; subst hl; exact hc
         · exact (rp_not hu (by decide)).1
       rw [hq]
       by_cases hc : hdS wCol r = true
       · rw [if_pos hc]
         cases r with
         | nil => simp [hdS] at hc
         | cons u r =>
           have hc' : isS wCol u = true := hc
           have hq2 : ∀ r', atomR wh se re (t :: u :: r') = wordR 3 r' fun s r2 => .ok [⟨4, 0, t.s, s⟩] r2 := fun r' => by rw [hq, if_pos (show hdS wCol (u :: r') = true from hc')]; rfl
           have w3 : Wf (fun ts => wordR 3 ts fun s r2 => .ok [⟨4, 0, t.s, s⟩] r2) := Wf.tok (c := fun t => t.kind == 3) fun v => Wf.ok [⟨4, 0, t.s, v.s⟩]
           have e2 := ((w3.run r).cons (p := fun ts => atomR wh se re (t :: ts)) (t := u) fun r' _ => hq2 r')
           show WfR (atomR wh se re) (t :: u :: r) (wordR 3 r fun s r2 => .ok [⟨4, 0, t.s, s⟩] r2)
           cases hy : (wordR 3 r fun s r2 => .ok [⟨4, 0, t.s, s⟩] r2) with
           | ok e s =>
             rw [hy] at e2
             obtain ⟨pre, e1, hh⟩ := e2
             exact ⟨t :: pre, by rw [e1]; rfl, hh⟩
           | bad k s =>
             rw [hy] at e2
             intro k0 r0
             obtain ⟨pre, e1, hh, he⟩ := e2 k0 r0
             exact ⟨t :: pre, by rw [e1]; rfl, hh, he⟩
       · have hcf : hdS wCol r = false := by simpa using hc
         rw [if_neg hc]
         by_cases g1 : t.s.toList = wTrue
         · rw [if_pos g1]; exact one _ fun r' hr => by rw [hq, if_neg (by rw [hl r' hcf hr]; simp), if_pos g1]
         rw [if_neg g1]
         by_cases g2 : t.s.toList = wFalse
         · rw [if_pos g2]; exact one _ fun r' hr => by rw [hq, if_neg (by rw [hl r' hcf hr]; simp), if_neg g1, if_pos g2]
         rw [if_neg g2]
         by_cases g3 : reserved t.s.toList = true
         · rw [if_pos g3]
           intro _ r0
           refine ⟨[t], rfl, fun r' hr => ?_, ?_⟩
           · show atomR wh se re (t :: r') = _
             rw [hq, if_neg (by rw [hl r' hcf (Lk.head hr)]; simp), if_neg g1, if_neg g2, if_pos g3]
           · rw [hq, if_neg (by simp [hdS]), if_neg g1, if_neg g2, if_pos g3]; exact .inr (.inl rfl)
         · rw [if_neg g3]; exact one _ fun r' hr => by rw [hq, if_neg (by rw [hl r' hcf hr]; simp), if_neg g1, if_neg g2, if_neg g3]
     by_cases k5 : isS [45] t = true
     · have hq : ∀ r', atomR wh se re (t :: r') = minusR r' := fun r' => by unfold atomR; dsimp only; rw [if_neg k2, if_neg k3, if_neg k4, if_neg k1, if_pos k5]
       rw [hq]
       cases r with
       | nil => intro _ h; exact absurd rfl h
       | cons u r =>
         unfold minusR
         dsimp only
         have bad : ∀ k, (∀ q, atomR wh se re (t :: u :: q) = .bad k (u :: q)) → WfR (atomR wh se re) (t :: u :: r) (.bad k (u :: r)) := fun k h _ _ => ⟨[t], rfl, fun r' hr => by
           cases r' with
           | nil => simp at hr
           | cons v w => simp at hr; subst hr; exact h w, by rw [hq]; exact .inr (.inl rfl)⟩
         have hm : ∀ q, minusR (u :: q) = if u.kind = 2 then numA (45 :: u.s.toList) (u :: q) q else .bad 1 (u :: q) := fun _ => rfl
         by_cases ku : u.kind = 2
         · rw [if_pos ku]
           unfold numA
           cases hn : numW (45 :: u.s.toList) with
           | some n =>
             refine ⟨[t, u], rfl, fun r' _ => ?_⟩
             show atomR wh se re (t :: u :: r') = _
             rw [hq, hm, if_pos ku, numA, hn]
           | none =>
             refine bad 5 fun q => ?_
             rw [hq, hm, if_pos ku, numA, hn]
         · rw [if_neg ku]
           refine bad 1 fun q => ?_
           rw [hq, hm, if_neg ku]
     by_cases k6 : isS [40] t = true
     · have hq : ∀ r', atomR wh se re (t :: r') = (wh r').bind fun e r2 => needR [41] r2 fun r3 => .ok e r3 := fun r' => by unfold atomR; dsimp only; rw [if_neg k2, if_neg k3, if_neg k4, if_neg k1, if_neg k5, if_pos k6]
       rw [hq]
       exact (((h1.bind fun e => Wf.tok (c := isS [41]) fun _ => Wf.ok e).run r)).cons fun r' _ => hq r'
     by_cases k7 : isS [91] t = true
     · have hq : ∀ r', atomR wh se re (t :: r') = se r' := fun r' => by unfold atomR; dsimp only; rw [if_neg k2, if_neg k3, if_neg k4, if_neg k1, if_neg k5, if_neg k6, if_pos k7]
       rw [hq]; exact (h2.run r).cons fun r' _ => hq r'
     by_cases k8 : isS [123] t = true
     · have hq : ∀ r', atomR wh se re (t :: r') = re r' := fun r' => by unfold atomR; dsimp only; rw [if_neg k2, if_neg k3, if_neg k4, if_neg k1, if_neg k5, if_neg k6, if_neg k7, if_pos k8]
       rw [hq]; exact (h3.run r).cons fun r' _ => hq r'
     have hq : ∀ r', atomR wh se re (t :: r') = .bad 1 (t :: r') := fun r' => by unfold atomR; dsimp only; rw [if_neg k2, if_neg k3, if_neg k4, if_neg k1, if_neg k5, if_neg k6, if_neg k7, if_neg k8]
     rw [hq]; exact zero 1 hq
 · exact .inr (.inl rfl)
def PT.low : PT → Bool
 | .ch _ => true | .rel => true | .sign => true | .atom => true | _ => false
theorem subT_low (l : Nat) : (subT l).low = true := by unfold subT; (repeat' split) <;> rfl
def Far (n : Nat) : Pr → Prop
 | .ok _ q => q.length ≤ n
 | .bad k q => k ≠ 0 → q.length ≤ n
theorem ShR.far {n m : Nat} {ts : List Tk} {x : Pr} (h : ShR m ts x) (hn : ts.length ≤ n) : Far n x := by
 cases x with
 | ok e r => obtain ⟨pre, rfl, _⟩ := h; simp at hn; show r.length ≤ n; omega
 | bad k r => obtain ⟨pre, rfl⟩ := h; intro _; simp at hn; show r.length ≤ n; omega
theorem Far.bind {n m : Nat} {x : Pr} {g : List Nd → List Tk → Pr} (h : Far n x) (hg : ∀ e, ShP m (g e)) : Far n (x.bind g) := by
 cases x with
 | ok e r => exact (hg e r).far h
 | bad k r => exact h
theorem pa_if {t u : Tk} (ht : isN wIf t = true) (hu : isS wCol u = true) (r : List Tk) : ∀ (f : Nat) (a : PT), a.low = true → Far r.length (pa f a (t :: u :: r)) := by
  have hk : t.kind = 1 ∧ t.s.toList = wIf := by simpa [isN] using ht
  intro f
  induction f with
  | zero => intro a _ h; exact absurd rfl h
  | succ f ih =>
    intro a ha
    cases a with
    | whole => exact absurd ha (by decide)
    | lp l e => exact absurd ha (by simp [PT.low])
    | po e => exact absurd ha (by simp [PT.low])
    | se ps => exact absurd ha (by simp [PT.low])
    | re ps last => exact absurd ha (by simp [PT.low])
    | ch l => exact (ih _ (subT_low l)).bind (m := 0) fun e => pa_sh f (.lp l e)
    | rel =>
      refine (ih (.ch 4) rfl).bind (m := 0) fun e r => ?_
      by_cases hc : relOp r ≠ 0
      · rw [if_pos hc]
        exact (ShP.tail (((pa_sh f (.ch 4)).bind fun e2 => ShP.ok (opX (relOp r) (e ++ e2))).mono (Nat.zero_le _))) r
      · rw [if_neg hc]
        by_cases hd : relWd r ≠ 0
        · rw [if_pos hd]
          exact (ShP.tail ((ShP.tok (c := fun t => t.kind == (if relWd r = 23 then 3 else 1)) fun t => ShP.ok (opS (relWd r) t.s e)).mono (Nat.zero_le _))) r
        · rw [if_neg hd]; exact ⟨[], rfl, Nat.le_refl _⟩
    | sign =>
      have e1 : hdS [33] (t :: u :: r) = false := by show isS _ t = _; simp [isS, hk.1]
      have e2 : hdS [45] (t :: u :: r) = false := by show isS _ t = _; simp [isS, hk.1]
      show Far r.length (if _ then _ else if _ then _ else _)
      rw [if_neg (by rw [e1]; simp), if_neg (by rw [e2]; simp)]
      exact (ih .atom rfl).bind (m := 0) fun e => pa_sh f (.po e)
    | atom =>
      show Far r.length (atomR _ _ _ (t :: u :: r))
      unfold atomR
      dsimp only
      rw [if_neg (by rw [hk.1]; decide), if_neg (by rw [hk.1]; decide), if_neg (by rw [hk.1]; decide), if_pos hk.1, if_pos (show hdS wCol (u :: r) = true from hu)]
      exact (ShP.far ((ShP.tok (c := fun t => t.kind == 3) fun v => ShP.ok [⟨4, 0, t.s, v.s⟩]) r) (Nat.le_refl _))
where ShP.far := @ShR.far
end Go.Proofs.YtbggbcnfkcadjaaGreatDoor
namespace Go.Proofs.YtbggbcnfkcadjaaGreatDoor
open Go.RowKit
theorem chOp_rp {t : Tk} (h : rpT t) (l : Nat) : chOp l t = 0 := by
 unfold chOp
 rw [h.1, h.2]
 simp
theorem relOp_one (t : Tk) (r : List Tk) : relOp (t :: r) = relOp [t] := rfl
theorem relWd_one (t : Tk) (r : List Tk) : relWd (t :: r) = relWd [t] := rfl
theorem relOp_rp {t : Tk} (h : rpT t) : relOp [t] = 0 := by
 show (if isS [61, 61] t = true then (14 : Int) else if isS [60] t = true then 15 else if isS [60, 61] t = true then 16 else if isN [105, 110] t = true then 20 else 0) = 0
 rw [(rp_not h (by decide)).1, (rp_not h (by decide)).1, (rp_not h (by decide)).1, (rp_not h (by decide)).2]
 rfl
theorem relWd_rp {t : Tk} (h : rpT t) : relWd [t] = 0 := by
 show (if isN [104, 97, 115] t = true then (21 : Int) else if isN [105, 115] t = true then 24 else if isN [108, 105, 107, 101] t = true then 23 else 0) = 0
 rw [(rp_not h (by decide)).2, (rp_not h (by decide)).2, (rp_not h (by decide)).2]
 rfl
theorem hd_same (f : List Tk → Bool) (hf : ∀ t q q', f (t :: q) = f (t :: q')) {r r' : List Tk} (h : r.head? = r'.head?) : f r = f r' := by
 cases r with
 | nil => cases r' with
   | nil => rfl
   | cons u w => simp at h
 | cons t q => cases r' with
   | nil => simp at h
   | cons u w => simp at h; subst h; exact hf _ _ _
theorem pa_wf : ∀ (f : Nat) (a : PT), Wf (pa f a) := by
 intro f
 induction f with
 | zero => exact fun a => ⟨fun ts h => absurd rfl h, .inr (.inr ⟨[], rfl⟩)⟩
 | succ f ih =>
   intro a
   cases a with
   | whole =>
     refine Wf.if2 (p := pa (f + 1) .whole) (c1 := isN wIf) (c2 := hdS wCol) (A := fun ts => (pa f .whole ts).bind fun c r => needN wThen r fun r => (pa f .whole r).bind fun a r => needN wElse r fun r => (pa f .whole r).bind fun b r => .ok (opX 13 (c ++ a ++ b)) r) (B := pa f (.ch 1)) rfl (fun r r' h => ?_) (fun t r h => (rp_not h (by decide)).1) (fun t h => (rp_not h (by decide)).2) (fun t r h1 h2 => ?_) (fun t r h => ?_) ?_ ?_ (ih (.ch 1)) fun t r h1 h2 => ?_
     · exact hd_same _ (fun _ _ _ => rfl) h
     · show (if hdN wIf (t :: r) = true ∧ hdS wCol r = false then _ else _) = _
       rw [if_pos ⟨h1, h2⟩]; rfl
     · show (if hdN wIf (t :: r) = true ∧ hdS wCol r = false then _ else _) = _
       rw [if_neg]
       rintro ⟨e1, e2⟩
       rcases h with h | h
       · exact absurd (show isN wIf t = true from e1) (by rw [h]; simp)
       · rw [h] at e2; exact absurd e2 (by simp)
     · show (if hdN wIf [] = true ∧ _ then _ else _) = _
       rw [if_neg (by simp [hdN])]
     · exact (ih .whole).bind fun c => Wf.tok (c := isN wThen) fun _ => (ih .whole).bind fun a => Wf.tok (c := isN wElse) fun _ => (ih .whole).bind fun b => Wf.ok (opX 13 (c ++ a ++ b))
     · cases r with
       | nil => simp [hdS] at h2
       | cons u r =>
         have h := pa_if h1 (show isS wCol u = true from h2) r f (.ch 1) rfl
         cases hy : pa f (.ch 1) (t :: u :: r) with
         | ok e q => rw [hy] at h; have : q.length ≤ r.length := h; show q.length + 1 ≤ r.length + 1; omega
         | bad k q => rw [hy] at h; intro k0; have : q.length ≤ r.length := h k0; show q.length ≤ r.length + 1; omega
   | ch l => exact (ih (subT l)).bind fun e => ih (.lp l e)
   | lp l e =>
     refine Wf.ifTok (p := pa (f + 1) (.lp l e)) (c := fun t => chOp l t != 0) (A := fun t ts => (pa f (subT l) ts).bind fun e2 r2 => pa f (.lp l (opX (chOp l t) (e ++ e2))) r2) (B := fun ts => .ok e ts) (fun t r h => ?_) (fun t r h => ?_) rfl (fun t h => by simp [chOp_rp h]) (fun t _ => (ih (subT l)).bind fun e2 => ih (.lp l (opX (chOp l t) (e ++ e2)))) (Wf.ok e)
     · show (if chOp l t = 0 then _ else _) = _
       rw [if_neg (by simpa using h)]
     · show (if chOp l t = 0 then _ else _) = _
       rw [if_pos (by simpa using h)]
   | rel =>
     have : Wf (fun ts => (pa f (.ch 4) ts).bind (fun e r => if relOp r ≠ 0 then (pa f (.ch 4) r.tail).bind fun e2 r2 => .ok (opX (relOp r) (e ++ e2)) r2
       else if relWd r ≠ 0 then wordR (if relWd r = 23 then 3 else 1) r.tail fun s r2 => .ok (opS (relWd r) s e) r2
       else .ok e r)) := (ih (.ch 4)).bind fun e => by
         refine Wf.ifTok (c := fun t => relOp [t] != 0) (A := fun t ts => (pa f (.ch 4) ts).bind fun e2 r2 => .ok (opX (relOp [t]) (e ++ e2)) r2) (B := fun r => if relWd r ≠ 0 then wordR (if relWd r = 23 then 3 else 1) r.tail fun s r2 => .ok (opS (relWd r) s e) r2 else .ok e r) (fun t r h => ?_) (fun t r h => ?_) rfl (fun t h => by simp [relOp_rp h]) (fun t _ => (ih (.ch 4)).bind fun e2 => Wf.ok (opX (relOp [t]) (e ++ e2))) ?_
         · rw [if_pos (by rw [relOp_one]; simpa using h)]; rfl
         · rw [if_neg (by rw [relOp_one]; simpa using h)]
         · refine Wf.ifTok (c := fun t => relWd [t] != 0) (A := fun t ts => wordR (if relWd [t] = 23 then 3 else 1) ts fun s r2 => .ok (opS (relWd [t]) s e) r2) (B := fun r => .ok e r) (fun t r h => ?_) (fun t r h => ?_) rfl (fun t h => by simp [relWd_rp h]) (fun t _ => Wf.tok (c := fun u => u.kind == (if relWd [t] = 23 then 3 else 1)) fun u => Wf.ok (opS (relWd [t]) u.s e)) (Wf.ok e)
           · rw [if_pos (by rw [relWd_one]; simpa using h)]; rfl
           · rw [if_neg (by rw [relWd_one]; simpa using h)]
     exact this
   | sign =>
     refine Wf.ifTok (p := pa (f + 1) .sign) (c := isS [33]) (A := fun _ ts => (pa f .sign ts).bind fun e r => .ok (opX 9 e) r) (B := fun ts => if hdS [45] ts = true ∧ hdK 2 ts.tail = false then (pa f .sign ts.tail).bind fun e r => .ok (opX 10 e) r else (pa f .atom ts).bind fun e r => pa f (.po e) r) (fun t r h => ?_) (fun t r h => ?_) rfl (fun t h => (rp_not h (by decide)).1) (fun _ _ => (ih .sign).bind fun e => Wf.ok (opX 9 e)) ?_
     · show (if hdS [33] (t :: r) = true then _ else _) = _
       rw [if_pos (show hdS [33] (t :: r) = true from h)]; rfl
     · show (if hdS [33] (t :: r) = true then _ else _) = _
       rw [if_neg (show ¬ hdS [33] (t :: r) = true by rw [show hdS [33] (t :: r) = isS [33] t from rfl, h]; simp)]
     · refine Wf.if2 (c1 := isS [45]) (c2 := hdK 2) (A := fun ts => (pa f .sign ts).bind fun e r => .ok (opX 10 e) r) (B := fun ts => (pa f .atom ts).bind fun e r => pa f (.po e) r) rfl (fun r r' h => ?_) (fun t r h => ?_) (fun t h => (rp_not h (by decide)).1) (fun t r h1 h2 => ?_) (fun t r h => ?_) ?_ ((ih .sign).bind fun e => Wf.ok (opX 10 e)) ((ih .atom).bind fun e => ih (.po e)) fun t r h1 h2 => ?_
       · exact hd_same _ (fun _ _ _ => rfl) h
       · show (t.kind == 2) = false
         rw [h.1]; rfl
       · rw [if_pos ⟨h1, h2⟩]; rfl
       · rw [if_neg]
         rintro ⟨e1, e2⟩
         rcases h with h | h
         · exact absurd (show isS [45] t = true from e1) (by rw [h]; simp)
         · rw [show (t :: r).tail = r from rfl, h] at e2; exact absurd e2 (by simp)
       · rw [if_neg (by simp [hdS])]
       · cases f with
         | zero => intro k0; exact absurd rfl k0
         | succ f =>
           cases r with
           | nil => simp [hdK] at h2
           | cons u r =>
             have hu : u.kind = 2 := by simpa [hdK] using h2
             have ht : t.kind = 5 ∧ t.s.toList = [45] := by simpa [isS] using h1
             have hq : pa (f + 1) .atom (t :: u :: r) = numA (45 :: u.s.toList) (u :: r) r := by
               show atomR _ _ _ (t :: u :: r) = _
               unfold atomR
               dsimp only
               rw [if_neg (by rw [ht.1]; decide), if_neg (by rw [ht.1]; decide), if_neg (by rw [ht.1]; decide), if_neg (by rw [ht.1]; decide), if_pos h1]
               unfold minusR
               dsimp only
               rw [if_pos hu]
             show (match ((pa (f + 1) .atom (t :: u :: r)).bind fun e r => pa (f + 1) (.po e) r) with | .ok _ q => _ | .bad k q => _)
             rw [hq]
             unfold numA
             cases numW (45 :: u.s.toList) with
             | none => intro _; exact Nat.le_refl _
             | some n =>
               dsimp only [Pr.bind]
               have h := pa_sh (f + 1) (.po [numX n]) r
               show (match pa (f + 1) (.po [numX n]) r with | .ok _ q => _ | .bad k q => _)
               cases hy : pa (f + 1) (.po [numX n]) r with
               | ok e q => rw [hy] at h; obtain ⟨pre, rfl, _⟩ := h; simp
               | bad k q => rw [hy] at h; obtain ⟨pre, rfl⟩ := h; intro _; simp; omega
   | po e =>
     refine Wf.ifTok (p := pa (f + 1) (.po e)) (c := isS [46]) (A := fun _ ts => wordR 1 ts fun s r => if dotOp s.toList = 0 ∨ hdS [40] r = false then pa f (.po (opS 22 s e)) r else (pa f .whole r.tail).bind fun e2 r2 => needR [41] r2 fun r3 => pa f (.po (opX (dotOp s.toList) (e ++ e2))) r3) (B := fun ts => .ok e ts) (fun t r h => ?_) (fun t r h => ?_) rfl (fun t h => (rp_not h (by decide)).1) (fun _ _ => Wf.tok (c := fun t => t.kind == 1) fun t => ?_) (Wf.ok e)
     · show (if hdS [46] (t :: r) = true then _ else _) = _
       rw [if_pos (show hdS [46] (t :: r) = true from h)]; rfl
     · show (if hdS [46] (t :: r) = true then _ else _) = _
       rw [if_neg (show ¬ hdS [46] (t :: r) = true by rw [show hdS [46] (t :: r) = isS [46] t from rfl, h]; simp)]
     · refine Wf.ifTok (c := fun u => dotOp t.s.toList != 0 && isS [40] u) (A := fun _ ts => (pa f .whole ts).bind fun e2 r2 => needR [41] r2 fun r3 => pa f (.po (opX (dotOp t.s.toList) (e ++ e2))) r3) (B := pa f (.po (opS 22 t.s e))) (fun u r h => ?_) (fun u r h => ?_) ?_ (fun u h => by rw [(rp_not h (by decide)).1]; simp) (fun _ _ => (ih .whole).bind fun e2 => Wf.tok (c := isS [41]) fun _ => ih (.po (opX (dotOp t.s.toList) (e ++ e2)))) (ih (.po (opS 22 t.s e)))
       · show (if dotOp t.s.toList = 0 ∨ hdS [40] (u :: r) = false then _ else _) = _
         rw [if_neg]; · rfl
         simp only [Bool.and_eq_true, bne_iff_ne] at h
         rintro (h1 | h1)
         · exact h.1 h1
         · rw [show hdS [40] (u :: r) = isS [40] u from rfl, h.2] at h1; simp at h1
       · show (if dotOp t.s.toList = 0 ∨ hdS [40] (u :: r) = false then _ else _) = _
         rw [if_pos]
         simp only [Bool.and_eq_false_iff, bne_eq_false_iff_eq] at h
         exact h
       · show (if dotOp t.s.toList = 0 ∨ hdS [40] [] = false then _ else _) = _
         rw [if_pos (.inr rfl)]
   | atom => exact Wf.atom (ih .whole) (ih (.se [])) (ih (.re [] ⟨#[]⟩))
   | se ps =>
     refine Wf.ifTok (p := pa (f + 1) (.se ps)) (c := isS [93]) (A := fun _ ts => .ok (⟨5, ps.length, ⟨#[]⟩, ⟨#[]⟩⟩ :: ps.flatten) ts) (B := fun ts => if ps = [] then (pa f .whole ts).bind fun e r => pa f (.se (ps ++ [e])) r else needR [44] ts fun r => (pa f .whole r).bind fun e r => pa f (.se (ps ++ [e])) r) (fun t r h => ?_) (fun t r h => ?_) rfl (fun t h => (rp_not h (by decide)).1) (fun _ _ => Wf.ok _) ?_
     · show (if hdS [93] (t :: r) = true then _ else _) = _
       rw [if_pos (show hdS [93] (t :: r) = true from h)]; rfl
     · show (if hdS [93] (t :: r) = true then _ else _) = _
       rw [if_neg (show ¬ hdS [93] (t :: r) = true by rw [show hdS [93] (t :: r) = isS [93] t from rfl, h]; simp)]
     · by_cases hp : ps = []
       · simp only [if_pos hp]
         exact (ih .whole).bind fun e => ih (.se (ps ++ [e]))
       · simp only [if_neg hp]
         exact Wf.tok (c := isS [44]) fun _ => (ih .whole).bind fun e => ih (.se (ps ++ [e]))
   | re ps last =>
     have hgo : Wf (fun r => tokR (fun t => t.kind == 1 && !sLate last t.s) r fun t r1 => needR [58] r1 fun r2 => (pa f .whole r2).bind fun e r3 => pa f (.re (ps ++ [opS 7 t.s e]) t.s) r3) := Wf.tok (c := fun t => t.kind == 1 && !sLate last t.s) fun t => Wf.tok (c := isS [58]) fun _ => (ih .whole).bind fun e => ih (.re (ps ++ [opS 7 t.s e]) t.s)
     refine Wf.ifTok (p := pa (f + 1) (.re ps last)) (c := isS [125]) (A := fun _ ts => .ok (⟨6, ps.length, ⟨#[]⟩, ⟨#[]⟩⟩ :: ps.flatten) ts) (B := fun ts => if ps = [] then tokR (fun t => t.kind == 1 && !sLate last t.s) ts (fun t r1 => needR [58] r1 fun r2 => (pa f .whole r2).bind fun e r3 => pa f (.re (ps ++ [opS 7 t.s e]) t.s) r3) else needR [44] ts fun r => tokR (fun t => t.kind == 1 && !sLate last t.s) r fun t r1 => needR [58] r1 fun r2 => (pa f .whole r2).bind fun e r3 => pa f (.re (ps ++ [opS 7 t.s e]) t.s) r3) (fun t r h => ?_) (fun t r h => ?_) rfl (fun t h => (rp_not h (by decide)).1) (fun _ _ => Wf.ok _) ?_
     · show (if hdS [125] (t :: r) = true then _ else _) = _
       rw [if_pos (show hdS [125] (t :: r) = true from h)]; rfl
     · show (if hdS [125] (t :: r) = true then _ else _) = _
       rw [if_neg (show ¬ hdS [125] (t :: r) = true by rw [show hdS [125] (t :: r) = isS [125] t from rfl, h]; simp)]
     · by_cases hp : ps = []
       · simp only [if_pos hp]; exact hgo
       · simp only [if_neg hp]
         exact Wf.tok (c := isS [44]) fun _ => hgo
def PT.rank : PT → Nat
 | .whole => 10 | .ch l => if l = 1 then 9 else if l = 2 then 8 else if l = 4 then 5 else 4 | .rel => 6 | .sign => 3 | .atom => 2 | .lp _ _ => 1 | .po _ => 1 | .se _ => 12 | .re _ _ => 12
theorem rank_sub (l : Nat) : (subT l).rank < (PT.ch l).rank := by
 unfold subT PT.rank
 by_cases h1 : l = 1
 · simp [h1]
 by_cases h2 : l = 2
 · simp [h2]
 by_cases h4 : l = 4
 · simp [h4]
 simp [h1, h2, h4]
theorem rank_le (a : PT) : a.rank ≤ 12 := by
 unfold PT.rank
 cases a <;> simp
 (repeat' split) <;> omega
def En (n : Nat) (p : List Tk → Pr) : Prop := ∀ ts, ts.length ≤ n → ∀ r, p ts ≠ .bad 0 r
theorem En.bind {n m : Nat} {s : Nat} {x : List Tk → Pr} {g : List Nd → List Tk → Pr} (h : En n x) (hs : ShP s x) (hm : n ≤ m + s) (hg : ∀ e, En m (g e)) : En n (fun ts => (x ts).bind g) := by
 intro ts hl r
 show (x ts).bind g ≠ _
 have h1 := h ts hl
 have h2 := hs ts
 cases hx : x ts with
 | bad k q => rw [hx] at h1; intro e; exact h1 r e
 | ok e q =>
   rw [hx] at h2
   obtain ⟨pre, rfl, hp⟩ := h2
   exact hg e q (by simp at hl; omega) r
theorem En.ok (n : Nat) (e : List Nd) : En n (fun ts => .ok e ts) := fun _ _ _ h => by cases h
theorem En.tok {n m : Nat} {c : Tk → Bool} {g : Tk → List Tk → Pr} (hm : n ≤ m + 1) (hg : ∀ t, En m (g t)) : En n (fun ts => tokR c ts g) := by
 intro ts hl r
 cases ts with
 | nil => intro h; cases h
 | cons t q =>
   show (if c t = true then g t q else .bad 1 (t :: q)) ≠ _
   by_cases hc : c t = true
   · rw [if_pos hc]; exact hg t q (by simp at hl; omega) r
   · rw [if_neg hc]; intro h; cases h
theorem En.mono {n m : Nat} {p : List Tk → Pr} (h : En n p) (hm : m ≤ n) : En m p := fun ts hl => h ts (Nat.le_trans hl hm)
theorem pa_en : ∀ (f n : Nat) (a : PT), 16 * n + a.rank ≤ f → En n (pa f a) := by
 intro f
 induction f with
 | zero => intro n a h; cases a <;> simp [PT.rank] at h <;> (try (split at h <;> try omega)) <;> (repeat' (split at h <;> try omega))
 | succ f ih =>
   intro n a hf
   -- what is read behind one word at least
   have next : ∀ (b : PT) (m : Nat), m + 1 ≤ n → En m (pa f b) := fun b m hm => ih m b (by have := rank_le b; have := rank_le a; omega)
   have tl : ∀ {p : List Tk → Pr}, (∀ m, m + 1 ≤ n → En m p) → ∀ t q, (t :: q).length ≤ n → ∀ r, p q ≠ .bad 0 r := fun hp t q hl r => hp q.length (by simpa using hl) q (Nat.le_refl _) r
   cases a with
   | whole =>
     intro ts hl r
     show (if _ then _ else _) ≠ _
     split
     · rename_i hc
       cases ts with
       | nil => simp [hdN] at hc
       | cons t q =>
         refine tl (p := fun ts => (pa f .whole ts).bind fun c r => needN wThen r fun r => (pa f .whole r).bind fun a r => needN wElse r fun r => (pa f .whole r).bind fun b r => .ok (opX 13 (c ++ a ++ b)) r) (fun m hm => ?_) t q hl r
         exact (next .whole m hm).bind (m := m) (pa_sh f .whole) (by omega) fun c => En.tok (c := isN wThen) (m := m) (by omega) fun _ => (next .whole m hm).bind (m := m) (pa_sh f .whole) (by omega) fun a => En.tok (c := isN wElse) (m := m) (by omega) fun _ => (next .whole m hm).bind (m := m) (pa_sh f .whole) (by omega) fun b => En.ok m _
     · exact ih n (.ch 1) (by simp [PT.rank] at hf ⊢; omega) ts hl r
   | ch l =>
     have h1 : En n (pa f (subT l)) := ih n _ (by have := rank_sub l; omega)
     cases n with
     | zero =>
       intro ts hl r
       show (pa f (subT l) ts).bind _ ≠ _
       have h2 := pa_sh f (subT l) ts
       have h3 := h1 ts hl
       cases hx : pa f (subT l) ts with
       | bad k q => rw [hx] at h3; exact h3 r
       | ok e q => rw [hx, subT_starts] at h2; obtain ⟨pre, rfl, hp⟩ := h2; simp at hl; rw [hl.1] at hp; simp at hp
     | succ n => exact h1.bind (m := n) (pa_sh f (subT l)) (by rw [subT_starts]; omega) fun e => next (.lp l e) n (Nat.le_refl _)
   | lp l e =>
     intro ts hl r
     cases ts with
     | nil => intro h; cases h
     | cons t q =>
       show (if chOp l t = 0 then _ else _) ≠ _
       split
       · intro h; cases h
       · exact tl (p := fun ts => (pa f (subT l) ts).bind fun e2 r2 => pa f (.lp l (opX (chOp l t) (e ++ e2))) r2) (fun m hm => (next (subT l) m hm).bind (m := m) (pa_sh f (subT l)) (by omega) fun e2 => next _ m hm) t q hl r
   | rel =>
     have h1 : En n (pa f (.ch 4)) := ih n _ (by simp [PT.rank] at hf ⊢; omega)
     have hg : ∀ (e : List Nd) (r : List Tk), r.length + 1 ≤ n → ∀ q, (if relOp r ≠ 0 then (pa f (.ch 4) r.tail).bind fun e2 r2 => .ok (opX (relOp r) (e ++ e2)) r2
       else if relWd r ≠ 0 then wordR (if relWd r = 23 then 3 else 1) r.tail fun s r2 => .ok (opS (relWd r) s e) r2
       else .ok e r) ≠ .bad 0 q := by
       intro e r hl q
       split
       · exact ((next (.ch 4) r.length hl).bind (m := r.length) (pa_sh f (.ch 4)) (by omega) fun e2 => En.ok r.length (opX (relOp r) (e ++ e2))) r.tail (by simp) q
       · split
         · exact (En.tok (n := r.length) (m := r.length) (c := fun u => u.kind == (if relWd r = 23 then 3 else 1)) (by omega) fun u => En.ok r.length (opS (relWd r) u.s e)) r.tail (by simp) q
         · intro h; cases h
     intro ts hl r
     show (pa f (.ch 4) ts).bind _ ≠ _
     have h2 := pa_sh f (.ch 4) ts
     have h3 := h1 ts hl
     cases hx : pa f (.ch 4) ts with
     | bad k q => rw [hx] at h3; exact h3 r
     | ok e q =>
       rw [hx] at h2
       obtain ⟨pre, rfl, hp⟩ := h2
       have hp : 1 ≤ pre.length := hp
       exact hg e q (by simp at hl; omega) r
   | sign =>
     have h1 : En n (pa f .atom) := ih n _ (by simp [PT.rank] at hf ⊢; omega)
     intro ts hl r
     show (if hdS [33] ts = true then _ else if hdS [45] ts = true ∧ hdK 2 ts.tail = false then _ else _) ≠ _
     have hsg : ∀ o t q, (t :: q).length ≤ n → ((pa f .sign q).bind fun e r => .ok (opX o e) r) ≠ .bad 0 r := fun o t q hl => tl (p := fun ts => (pa f .sign ts).bind fun e r => .ok (opX o e) r) (fun m hm => (next .sign m hm).bind (m := m) (pa_sh f .sign) (by omega) fun e => En.ok m _) t q hl r
     split
     · rename_i hc
       cases ts with
       | nil => simp [hdS] at hc
       | cons t q => exact hsg 9 t q hl
     split
     · rename_i hc
       cases ts with
       | nil => simp [hdS] at hc
       | cons t q => exact hsg 10 t q hl
     have h2 := pa_sh f .atom ts
     have h3 := h1 ts hl
     cases hx : pa f .atom ts with
     | bad k q => rw [hx] at h3; exact h3 r
     | ok e q =>
       rw [hx] at h2
       obtain ⟨pre, rfl, hp⟩ := h2
       have hp : 1 ≤ pre.length := hp
       exact next (.po e) q.length (by simp at hl; omega) q (Nat.le_refl _) r
   | po e =>
     intro ts hl r
     show (if hdS [46] ts = true then _ else _) ≠ _
     split
     · rename_i hc
       cases ts with
       | nil => simp [hdS] at hc
       | cons t q =>
         refine tl (p := fun ts => wordR 1 ts fun s r => if dotOp s.toList = 0 ∨ hdS [40] r = false then pa f (.po (opS 22 s e)) r else (pa f .whole r.tail).bind fun e2 r2 => needR [41] r2 fun r3 => pa f (.po (opX (dotOp s.toList) (e ++ e2))) r3) (fun m hm => ?_) t q hl r
         refine En.tok (c := fun t => t.kind == 1) (m := m) (by omega) fun u => ?_
         intro q hq r
         show (if dotOp u.s.toList = 0 ∨ hdS [40] q = false then _ else _) ≠ _
         split
         · exact next (.po (opS 22 u.s e)) m hm q hq r
         · exact ((next .whole m hm).bind (m := m) (pa_sh f .whole) (by omega) fun e2 => En.tok (c := isS [41]) (m := m) (by omega) fun _ => next (.po (opX (dotOp u.s.toList) (e ++ e2))) m hm) q.tail (by simp; omega) r
     · intro h; cases h
   | atom =>
     intro ts hl r
     show atomR _ _ _ ts ≠ _
     cases ts with
     | nil => intro h; cases h
     | cons t q =>
       unfold atomR
       dsimp only
       split
       · unfold numA; split <;> (intro h; cases h)
       split
       · intro h; cases h
       split
       · intro h; cases h
       split
       · split
         · exact (En.tok (n := q.length) (m := q.length) (c := fun u => u.kind == 3) (by omega) fun u => En.ok q.length [⟨4, 0, t.s, u.s⟩]) q.tail (by simp) r
         split
         · intro h; cases h
         split
         · intro h; cases h
         split <;> (intro h; cases h)
       split
       · unfold minusR
         split
         · intro h; cases h
         · split
           · unfold numA; split <;> (intro h; cases h)
           · intro h; cases h
       split
       · exact tl (p := fun ts => (pa f .whole ts).bind fun e r2 => needR [41] r2 fun r3 => .ok e r3) (fun m hm => (next .whole m hm).bind (m := m) (pa_sh f .whole) (by omega) fun e => En.tok (c := isS [41]) (m := m) (by omega) fun _ => En.ok m e) t q hl r
       split
       · exact tl (fun m hm => next (.se []) m hm) t q hl r
       split
       · exact tl (fun m hm => next (.re [] ⟨#[]⟩) m hm) t q hl r
       · intro h; cases h
   | se ps =>
     have h1 : En n (pa f .whole) := ih n _ (by simp [PT.rank] at hf ⊢; omega)
     intro ts hl r
     show (if hdS [93] ts = true then _ else if ps = [] then _ else _) ≠ _
     split
     · intro h; cases h
     split
     · have h2 := pa_sh f .whole ts
       have h3 := h1 ts hl
       cases hx : pa f .whole ts with
       | bad k q => rw [hx] at h3; exact h3 r
       | ok e q =>
         rw [hx] at h2
         obtain ⟨pre, rfl, hp⟩ := h2
         have hp : 1 ≤ pre.length := hp
         exact next (.se (ps ++ [e])) q.length (by simp at hl; omega) q (Nat.le_refl _) r
     · cases ts with
       | nil => intro h; cases h
       | cons t q =>
         show (if isS [44] t = true then _ else _) ≠ _
         split
         · exact tl (p := fun ts => (pa f .whole ts).bind fun e r => pa f (.se (ps ++ [e])) r) (fun m hm => (next .whole m hm).bind (m := m) (pa_sh f .whole) (by omega) fun e => next _ m hm) t q hl r
         · intro h; cases h
   | re ps last =>
     have hgo : ∀ m, m ≤ n → En m (fun r => tokR (fun t => t.kind == 1 && !sLate last t.s) r fun t r1 => needR [58] r1 fun r2 => (pa f .whole r2).bind fun e r3 => pa f (.re (ps ++ [opS 7 t.s e]) t.s) r3) := by
       intro m hm
       intro ts hl r
       cases ts with
       | nil => intro h; cases h
       | cons t q =>
         show (if _ then _ else _) ≠ _
         split
         · have hq : q.length + 1 ≤ n := by simp at hl; omega
           exact (En.tok (n := q.length) (m := q.length) (c := isS [58]) (by omega) fun _ => (next .whole q.length hq).bind (m := q.length) (pa_sh f .whole) (by omega) fun e => next (.re (ps ++ [opS 7 t.s e]) t.s) q.length hq) q (Nat.le_refl _) r
         · intro h; cases h
     intro ts hl r
     show (if hdS [125] ts = true then _ else if ps = [] then _ else _) ≠ _
     split
     · intro h; cases h
     split
     · exact hgo n (Nat.le_refl _) ts hl r
     · exact (En.tok (n := n) (m := n) (c := isS [44]) (by omega) fun _ => hgo n (Nat.le_refl _)) ts hl r
end Go.Proofs.YtbggbcnfkcadjaaGreatDoor
