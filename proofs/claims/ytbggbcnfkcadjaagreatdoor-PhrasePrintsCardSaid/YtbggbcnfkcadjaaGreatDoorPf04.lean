/-
  PLAIN WORDS: the parser of phrases, on lists of words. PLAIN LAWS: fuel; what stands behind.
  PLAIN LAWS: the parser of phrases: fuel; what it read stays read with other words behind.
  PLAIN LAWS: the parser of phrases: what it read stays read with other words behind; where it stops, what stands ahead can go on; fuel that is enough.
-/
import Derived.Test.YtbggbcnfkcadjaaGreatDoorPf03
import Derived.Test.YtbggbcnfkcadjaaGreatDoorPf01
import Derived.Lib.ParseIntB
namespace Go.Proofs.YtbggbcnfkcadjaaGreatDoor
open Go.RowKit
inductive Pr where
 | ok (e : List Nd) (r : List Tk)
 | bad (k : Int) (r : List Tk)
def Pr.bind (x : Pr) (g : List Nd → List Tk → Pr) : Pr := match x with
 | .ok e r => g e r
 | .bad k r => .bad k r
def isN (s : List UInt8) (t : Tk) : Bool := t.kind == 1 && t.s.toList == s
def isS (s : List UInt8) (t : Tk) : Bool := t.kind == 5 && t.s.toList == s
def hdN (s : List UInt8) : List Tk → Bool
 | [] => false
 | t :: _ => isN s t
def hdS (s : List UInt8) : List Tk → Bool
 | [] => false
 | t :: _ => isS s t
def hdK (k : Int) : List Tk → Bool
 | [] => false
 | t :: _ => t.kind == k
def tokR (c : Tk → Bool) (r : List Tk) (g : Tk → List Tk → Pr) : Pr := match r with
 | [] => .bad 1 []
 | t :: r' => if c t = true then g t r' else .bad 1 (t :: r')
def needR (s : List UInt8) (r : List Tk) (g : List Tk → Pr) : Pr := tokR (isS s) r fun _ r => g r
def needN (s : List UInt8) (r : List Tk) (g : List Tk → Pr) : Pr := tokR (isN s) r fun _ r => g r
def wordR (k : Int) (r : List Tk) (g : ByteArray → List Tk → Pr) : Pr := tokR (fun t => t.kind == k) r fun t r => g t.s r
def opX (o : Int) (e : List Nd) : List Nd := ⟨o, 0, ⟨#[]⟩, ⟨#[]⟩⟩ :: e
def opS (o : Int) (s : ByteArray) (e : List Nd) : List Nd := ⟨o, 0, s, ⟨#[]⟩⟩ :: e
def numX (n : Int) : Nd := ⟨2, n, ⟨#[]⟩, ⟨#[]⟩⟩
def chOp (l : Nat) (t : Tk) : Int :=
 if t.kind ≠ 5 then 0 else
 if l = 1 then (if t.s.toList = [124, 124] then 12 else 0)
 else if l = 2 then (if t.s.toList = [38, 38] then 11 else 0)
 else if l = 4 then (if t.s.toList = [43] then 17 else if t.s.toList = [45] then 18 else 0)
 else (if t.s.toList = [42] then 19 else 0)
def dotOp (s : List UInt8) : Int :=
 if s = [99, 111, 110, 116, 97, 105, 110, 115] then 25
 else if s = [99, 111, 110, 116, 97, 105, 110, 115, 65, 108, 108] then 26
 else if s = [99, 111, 110, 116, 97, 105, 110, 115, 65, 110, 121] then 27 else 0
def relOp (r : List Tk) : Int :=
 if hdS [61, 61] r = true then 14 else if hdS [60] r = true then 15 else if hdS [60, 61] r = true then 16 else if hdN [105, 110] r = true then 20 else 0
def relWd (r : List Tk) : Int :=
 if hdN [104, 97, 115] r = true then 21 else if hdN [105, 115] r = true then 24 else if hdN [108, 105, 107, 101] r = true then 23 else 0
def numW (l : List UInt8) : Option Int := match Lib.parseIntB 64 l with
 | .ok v => some v
 | _ => none
inductive PT where
 | whole | rel | sign | atom
 | ch (l : Nat)
 | lp (l : Nat) (e : List Nd)
 | po (e : List Nd)
 | se (ps : List (List Nd))
 | re (ps : List (List Nd)) (last : ByteArray)
def subT (l : Nat) : PT := if l = 1 then .ch 2 else if l = 2 then .rel else if l = 4 then .ch 5 else .sign
def wIf : List UInt8 := [105, 102]
def wThen : List UInt8 := [116, 104, 101, 110]
def wElse : List UInt8 := [101, 108, 115, 101]
def wCol : List UInt8 := [58, 58]
def wTrue : List UInt8 := [116, 114, 117, 101]
def wFalse : List UInt8 := [102, 97, 108, 115, 101]
def numA (l : List UInt8) (ts r : List Tk) : Pr := match numW l with
 | some n => .ok [numX n] r
 | none => .bad 5 ts
def minusR (r : List Tk) : Pr := match r with
 | [] => .bad 1 []
 | u :: r' => if u.kind = 2 then numA (45 :: u.s.toList) (u :: r') r' else .bad 1 (u :: r')
def atomR (wh se re : List Tk → Pr) (ts : List Tk) : Pr := match ts with
 | [] => .bad 1 []
 | t :: r =>
   if t.kind = 2 then numA t.s.toList (t :: r) r
   else if t.kind = 3 then .ok [⟨3, 0, t.s, ⟨#[]⟩⟩] r
   else if t.kind = 4 then .ok [⟨8, 0, bsOf (63 :: t.s.toList), ⟨#[]⟩⟩] r
   else if t.kind = 1 then
     if hdS wCol r = true then wordR 3 r.tail fun s r2 => .ok [⟨4, 0, t.s, s⟩] r2
     else if t.s.toList = wTrue then .ok [⟨1, 1, ⟨#[]⟩, ⟨#[]⟩⟩] r
     else if t.s.toList = wFalse then .ok [⟨1, 0, ⟨#[]⟩, ⟨#[]⟩⟩] r
     else if reserved t.s.toList = true then .bad 1 r
     else .ok [⟨8, 0, t.s, ⟨#[]⟩⟩] r
   else if isS [45] t = true then minusR r
   else if isS [40] t = true then (wh r).bind fun e r2 => needR [41] r2 fun r3 => .ok e r3
   else if isS [91] t = true then se r
   else if isS [123] t = true then re r
   else .bad 1 (t :: r)
def pa : Nat → PT → List Tk → Pr
 | 0, _, ts => .bad 0 ts
 | f + 1, .whole, ts =>
   if hdN wIf ts = true ∧ hdS wCol ts.tail = false then
     (pa f .whole ts.tail).bind fun c r => needN wThen r fun r => (pa f .whole r).bind fun a r => needN wElse r fun r => (pa f .whole r).bind fun b r => .ok (opX 13 (c ++ a ++ b)) r
   else pa f (.ch 1) ts
 | f + 1, .ch l, ts => (pa f (subT l) ts).bind fun e r => pa f (.lp l e) r
 | f + 1, .lp l e, ts => match ts with
   | [] => .ok e []
   | t :: r => if chOp l t = 0 then .ok e (t :: r) else (pa f (subT l) r).bind fun e2 r2 => pa f (.lp l (opX (chOp l t) (e ++ e2))) r2
 | f + 1, .rel, ts => (pa f (.ch 4) ts).bind fun e r =>
   if relOp r ≠ 0 then (pa f (.ch 4) r.tail).bind fun e2 r2 => .ok (opX (relOp r) (e ++ e2)) r2
   else if relWd r ≠ 0 then wordR (if relWd r = 23 then 3 else 1) r.tail fun s r2 => .ok (opS (relWd r) s e) r2
   else .ok e r
 | f + 1, .sign, ts =>
   if hdS [33] ts = true then (pa f .sign ts.tail).bind fun e r => .ok (opX 9 e) r
   else if hdS [45] ts = true ∧ hdK 2 ts.tail = false then (pa f .sign ts.tail).bind fun e r => .ok (opX 10 e) r
   else (pa f .atom ts).bind fun e r => pa f (.po e) r
 | f + 1, .po e, ts =>
   if hdS [46] ts = true then wordR 1 ts.tail fun s r =>
     if dotOp s.toList = 0 ∨ hdS [40] r = false then pa f (.po (opS 22 s e)) r
     else (pa f .whole r.tail).bind fun e2 r2 => needR [41] r2 fun r3 => pa f (.po (opX (dotOp s.toList) (e ++ e2))) r3
   else .ok e ts
 | f + 1, .atom, ts => atomR (pa f .whole) (pa f (.se [])) (pa f (.re [] ⟨#[]⟩)) ts
 | f + 1, .se ps, ts =>
   if hdS [93] ts = true then .ok (⟨5, ps.length, ⟨#[]⟩, ⟨#[]⟩⟩ :: ps.flatten) ts.tail
   else if ps = [] then (pa f .whole ts).bind fun e r => pa f (.se (ps ++ [e])) r
   else needR [44] ts fun r => (pa f .whole r).bind fun e r => pa f (.se (ps ++ [e])) r
 | f + 1, .re ps last, ts =>
   if hdS [125] ts = true then .ok (⟨6, ps.length, ⟨#[]⟩, ⟨#[]⟩⟩ :: ps.flatten) ts.tail
   else
     let go := fun r : List Tk => tokR (fun t => t.kind == 1 && !sLate last t.s) r fun t r1 => needR [58] r1 fun r2 => (pa f .whole r2).bind fun e r3 => pa f (.re (ps ++ [opS 7 t.s e]) t.s) r3
     if ps = [] then go ts else needR [44] ts go
end Go.Proofs.YtbggbcnfkcadjaaGreatDoor
namespace Go.Proofs.YtbggbcnfkcadjaaGreatDoor
open Go.RowKit
def LeP (p p' : List Tk → Pr) : Prop := ∀ ts, (∀ r, p ts ≠ .bad 0 r) → p' ts = p ts
theorem LeP.refl (p : List Tk → Pr) : LeP p p := fun _ _ => rfl
theorem LeP.bind {x x' : List Tk → Pr} {g g' : List Nd → List Tk → Pr} (h : LeP x x') (hg : ∀ e, LeP (g e) (g' e)) : LeP (fun ts => (x ts).bind g) (fun ts => (x' ts).bind g') := by
 intro ts hn
 have h1 : ∀ r, x ts ≠ .bad 0 r := by intro r hr; exact hn r (by show (x ts).bind g = _; rw [hr]; rfl)
 show (x' ts).bind g' = (x ts).bind g
 rw [h ts h1]
 cases hx : x ts with
 | bad k r => rfl
 | ok e r =>
   refine hg e r fun q hq => hn q ?_
   show (x ts).bind g = _
   rw [hx]; exact hq
theorem LeP.tok {c : Tk → Bool} {g g' : Tk → List Tk → Pr} (hg : ∀ t, LeP (g t) (g' t)) : LeP (fun ts => tokR c ts g) (fun ts => tokR c ts g') := by
 intro ts hn
 cases ts with
 | nil => rfl
 | cons t r =>
   show (if c t = true then g' t r else _) = if c t = true then g t r else _
   by_cases hc : c t = true
   · rw [if_pos hc, if_pos hc]
     refine hg t r fun q hq => hn q ?_
     show (if c t = true then g t r else _) = _
     rw [if_pos hc]; exact hq
   · rw [if_neg hc, if_neg hc]
theorem LeP.ite {c : List Tk → Prop} [∀ ts, Decidable (c ts)] {p q p' q' : List Tk → Pr} (h1 : LeP p p') (h2 : LeP q q') : LeP (fun ts => if c ts then p ts else q ts) (fun ts => if c ts then p' ts else q' ts) := by
 intro ts hn
 by_cases hc : c ts
 · have : ∀ r, p ts ≠ .bad 0 r := fun r hr => hn r (by show (if c ts then p ts else q ts) = _; rw [if_pos hc]; exact hr)
   show (if c ts then p' ts else q' ts) = if c ts then p ts else q ts
   rw [if_pos hc, if_pos hc]; exact h1 ts this
 · have : ∀ r, q ts ≠ .bad 0 r := fun r hr => hn r (by show (if c ts then p ts else q ts) = _; rw [if_neg hc]; exact hr)
   show (if c ts then p' ts else q' ts) = if c ts then p ts else q ts
   rw [if_neg hc, if_neg hc]; exact h2 ts this
theorem LeP.tail {p p' : List Tk → Pr} (h : LeP p p') : LeP (fun ts => p ts.tail) (fun ts => p' ts.tail) := fun ts hn => h ts.tail hn
theorem LeP.atom {wh se re wh' se' re' : List Tk → Pr} (h1 : LeP wh wh') (h2 : LeP se se') (h3 : LeP re re') : LeP (atomR wh se re) (atomR wh' se' re') := by
 intro ts hn
 cases ts with
 | nil => rfl
 | cons t r =>
   unfold atomR at hn ⊢
   dsimp only at hn ⊢
   split
   · rfl
   split
   · rfl
   split
   · rfl
   split
   · rfl
   split
   · rfl
   rename_i h2' h3' h4' h1' h5'
   rw [if_neg h2', if_neg h3', if_neg h4', if_neg h1', if_neg h5'] at hn
   split
   · rename_i h6; rw [if_pos h6] at hn
     exact (h1.bind fun e => LeP.tok (c := isS [41]) fun _ => LeP.refl fun r3 => .ok e r3) r hn
   rename_i h6; rw [if_neg h6] at hn
   split
   · rename_i h7; rw [if_pos h7] at hn; exact h2 r hn
   rename_i h7; rw [if_neg h7] at hn
   split
   · rename_i h8; rw [if_pos h8] at hn; exact h3 r hn
   rfl
theorem pa_mono : ∀ (f : Nat) (t : PT), LeP (pa f t) (pa (f + 1) t) := by
 intro f
 induction f with
 | zero => intro t ts hn; exact absurd rfl (hn ts)
 | succ f ih =>
   intro t
   cases t with
   | whole =>
     have := LeP.ite (c := fun ts => hdN wIf ts = true ∧ hdS wCol ts.tail = false) (LeP.tail ((ih .whole).bind fun c => LeP.tok (c := isN wThen) fun _ => (ih .whole).bind fun a => LeP.tok (c := isN wElse) fun _ => (ih .whole).bind fun b => LeP.refl fun r => .ok (opX 13 (c ++ a ++ b)) r)) (ih (.ch 1))
     exact this
   | ch l => exact (ih (subT l)).bind fun e => ih (.lp l e)
   | lp l e =>
     intro ts hn
     cases ts with
     | nil => rfl
     | cons t r =>
       simp only [pa] at hn ⊢
       by_cases hc : chOp l t = 0
       · rw [if_pos hc, if_pos hc]
       · rw [if_neg hc] at hn ⊢
         rw [if_neg hc]
         exact ((ih (subT l)).bind fun e2 => ih (.lp l (opX (chOp l t) (e ++ e2)))) r hn
   | rel =>
     have := (ih (.ch 4)).bind (g := fun e r => if relOp r ≠ 0 then (pa f (.ch 4) r.tail).bind fun e2 r2 => .ok (opX (relOp r) (e ++ e2)) r2
       else if relWd r ≠ 0 then wordR (if relWd r = 23 then 3 else 1) r.tail fun s r2 => .ok (opS (relWd r) s e) r2
       else .ok e r) (g' := fun e r => if relOp r ≠ 0 then (pa (f + 1) (.ch 4) r.tail).bind fun e2 r2 => .ok (opX (relOp r) (e ++ e2)) r2
       else if relWd r ≠ 0 then wordR (if relWd r = 23 then 3 else 1) r.tail fun s r2 => .ok (opS (relWd r) s e) r2
       else .ok e r) ?_
     · exact this
     · intro e r hn
       dsimp only at hn ⊢
       by_cases hc : relOp r ≠ 0
       · rw [if_pos hc] at hn ⊢
         rw [if_pos hc]
         exact ((ih (.ch 4)).bind fun e2 => LeP.refl fun r2 => .ok (opX (relOp r) (e ++ e2)) r2) r.tail hn
       · rw [if_neg hc, if_neg hc]
   | sign =>
     have := LeP.ite (c := fun ts => hdS [33] ts = true) (LeP.tail ((ih .sign).bind fun e => LeP.refl fun r => .ok (opX 9 e) r)) (LeP.ite (c := fun ts => hdS [45] ts = true ∧ hdK 2 ts.tail = false) (LeP.tail ((ih .sign).bind fun e => LeP.refl fun r => .ok (opX 10 e) r)) ((ih .atom).bind fun e => ih (.po e)))
     exact this
   | po e =>
     have := LeP.ite (c := fun ts => hdS [46] ts = true) (LeP.tail (LeP.tok (c := fun t => t.kind == 1) fun t => LeP.ite (c := fun r => dotOp t.s.toList = 0 ∨ hdS [40] r = false) (ih (.po (opS 22 t.s e))) (LeP.tail ((ih .whole).bind fun e2 => LeP.tok (c := isS [41]) fun _ => ih (.po (opX (dotOp t.s.toList) (e ++ e2))))))) (LeP.refl fun ts => .ok e ts)
     exact this
   | atom => exact LeP.atom (ih .whole) (ih (.se [])) (ih (.re [] ⟨#[]⟩))
   | se ps =>
     have := LeP.ite (c := fun ts => hdS [93] ts = true) (LeP.refl fun ts => .ok (⟨5, ps.length, ⟨#[]⟩, ⟨#[]⟩⟩ :: ps.flatten) ts.tail) (LeP.ite (c := fun _ => ps = []) ((ih .whole).bind fun e => ih (.se (ps ++ [e]))) (LeP.tok (c := isS [44]) fun _ => (ih .whole).bind fun e => ih (.se (ps ++ [e]))))
     exact this
   | re ps last =>
     have hgo := LeP.tok (c := fun t => t.kind == 1 && !sLate last t.s) fun t => LeP.tok (c := isS [58]) fun _ => (ih .whole).bind fun e => ih (.re (ps ++ [opS 7 t.s e]) t.s)
     have := LeP.ite (c := fun ts => hdS [125] ts = true) (LeP.refl fun ts => .ok (⟨6, ps.length, ⟨#[]⟩, ⟨#[]⟩⟩ :: ps.flatten) ts.tail) (LeP.ite (c := fun _ => ps = []) hgo (LeP.tok (c := isS [44]) fun _ => hgo))
     exact this
theorem pa_more {f f' : Nat} (h : f ≤ f') {t : PT} {ts : List Tk} (hn : ∀ r, pa f t ts ≠ .bad 0 r) : pa f' t ts = pa f t ts := by
 induction h with
 | refl => rfl
 | step _ ih => rw [pa_mono _ _ _ (by rw [ih]; exact hn), ih]
end Go.Proofs.YtbggbcnfkcadjaaGreatDoor
namespace Go.Proofs.YtbggbcnfkcadjaaGreatDoor
open Go.RowKit
def PT.low : PT → Bool
 | .ch _ => true | .rel => true | .sign => true | .atom => true | _ => false
end Go.Proofs.YtbggbcnfkcadjaaGreatDoor
