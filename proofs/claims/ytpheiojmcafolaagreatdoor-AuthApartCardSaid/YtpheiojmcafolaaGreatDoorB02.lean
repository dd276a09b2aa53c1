/-
  ARGUMENTS that are lists of any kind of values, opened: what the row's reading says of memory. Facts of the seat's program that each row asks.
  ARGUMENTS that are lists of nodes, opened: what the row's reading says of memory. Facts of the seat's program that each row asks.
  PLAIN WORDS: the pieces of an expression; other names. PLAIN LAW for MoveApart. PLAIN LAW for MoveApart. PLAIN WORDS: pieces in the order of their names; a name that stands there twice. PLAIN WORDS: the order of lists of nodes; values, piece by piece. PLAIN WORDS: values, piece by piece; a value and what the reader of values says. PLAIN LAW: what is moved stays what it is; there and back.
  ARGUMENTS: strings in a reading; the reach of an argument. ARGUMENTS that are moves, opened.
  PLAIN WORDS: the words of a line, on lists of bytes. No program in sight. PLAIN LAWS: reading a line, word by word; line behind line. PLAIN WORDS: what a text is between quotes. PLAIN WORDS: the spelling of words.
-/
import Derived.Test.YtpheiojmcafolaaGreatDoorB01
import Derived.Test.YtpheiojmcafolaaGreatDoorProg
import Derived.Deep.Slices
import Derived.Deep.Fields
import Derived.ChangeSame
import Derived.SizedLaws
import Derived.ProofKit
import Derived.Sort.Walk0
import Derived.Sort.Statements
import Derived.Shelf.SlSortCmp.Insertion
import Derived.Lib.Bytealg
import Derived.Lib.Join
namespace Go.Proofs.YtpheiojmcafolaaGreatDoor
set_option maxRecDepth 100000
open Go.ChangeShapes Go.WideShapes Go.RowKit Go.Deep
section
variable {H : Type} {enc : TypeId × Value → H} {W : World}
theorem open_gen {α : Type} {en : α → List Value} {k : Nat} {data : α → DataW H} {Good : α → Prop} {t e : TypeId} (ht : Tryz.prog.underlying t = some (.slice e)) (ce : Tryz.prog.cellsOf e = k) (he : EncOk en k)
   (hel : ∀ n cs y, DataW.trod enc Tryz.prog W 0 (fun _ => true) true n e cs = some y → ∃ x, cs = en x ∧ y.1 = data x ∧ Good x) {fuel : Nat} {cs : List Value} {y : DataW H × List MemPlace}
   (hf : DataW.trod enc Tryz.prog W 0 (fun _ => true) true fuel t cs = some y) :
   ∃ (A : Option Addr) (xs : List α) (c : Nat), cs = [.slice A xs.length c] ∧ xs.length ≤ c ∧ c ≤ 9223372036854775807 ∧ SlG en k W W.heap.size A xs ∧ (∀ x ∈ xs, Good x) ∧ (xs = [] ∨ ∃ sp, y.1 = .slice (xs.map data) sp) := by
 rcases open_slice ht hf with ⟨hcs, _⟩ | ⟨a, len', cap', m, n, D, Pl, hcs, _, hl, hm, hmm, hx, hi⟩
 · exact ⟨none, [], 0, hcs, by simp, by omega, SlG.nil _ _ _, by simp, .inl rfl⟩
 · simp only [if_true] at hmm
   subst hmm
   have hel' : ∀ i, i < m → ∃ x : α, D i = data x ∧ Good x ∧ ∀ j u, (en x)[j]? = some u → W.cell? (a.add (i * k + j)) = some u := by
     intro i him
     obtain ⟨cs', hc, ht'⟩ := hi i him
     rw [ce] at hc
     obtain ⟨x, rfl, hd, hg⟩ := hel _ _ _ ht'
     refine ⟨x, hd, hg, fun j u hu => ?_⟩
     obtain ⟨_, _, hat⟩ := World.cells?_some hc
     have hj : j < k := by have := (List.getElem?_eq_some_iff.1 hu).1; rwa [he.len] at this
     have := hat j hj
     rw [add_add] at this
     rw [this, hu]
   have hxs : ∀ r, r ≤ m → ∃ xs : List α, xs.length = r ∧ (List.range r).map D = xs.map data ∧ (∀ x ∈ xs, Good x) ∧ ∀ i x, xs[i]? = some x → ∀ j u, (en x)[j]? = some u → W.cell? (a.add (i * k + j)) = some u := by
     intro r
     induction r with
     | zero => intro _; exact ⟨[], rfl, rfl, by simp, fun i x hx => by simp at hx⟩
     | succ r ih =>
       intro hk
       obtain ⟨xs, h1, h2, h3, h4⟩ := ih (by omega)
       obtain ⟨x, hd, hg, hc⟩ := hel' r (by omega)
       refine ⟨xs ++ [x], by simp [h1], by rw [List.range_succ, List.map_append, List.map_append, h2]; simp [hd], fun z hz => ?_, fun i y hy => ?_⟩
       · rcases List.mem_append.1 hz with hz | hz
         · exact h3 z hz
         · rw [List.mem_singleton] at hz; subst hz; exact hg
       · rcases Nat.lt_or_ge i xs.length with hlt | hge
         · rw [List.getElem?_append_left hlt] at hy; exact h4 i y hy
         · have : i = xs.length := by
             have := (List.getElem?_eq_some_iff.1 hy).1
             simp at this; omega
           subst this
           simp at hy
           subst hy
           rw [h1]; exact hc
   obtain ⟨xs, h1, h2, h3, h4⟩ := hxs len' hl
   subst h1
   refine ⟨some a, xs, m, hcs, hl, by unfold maxLen at hm; omega, fun hne => ?_, h3, .inr ⟨_, by rw [hx, ← h2]⟩⟩
   have h0 : 0 < xs.length := List.length_pos_iff.2 hne
   have hen : 0 < (en xs[0]).length := by rw [he.len]; exact he.pos
   have hc0 := h4 0 xs[0] (List.getElem?_eq_getElem h0) 0 _ (List.getElem?_eq_getElem hen)
   have hsp : a.spot = none := by
     cases hs : a.spot with
     | none => rfl
     | some q =>
       simp [World.cell?, Addr.add, hs] at hc0
       split at hc0 <;> simp at hc0
   obtain ⟨b, o, sp⟩ := a
   simp only at hsp
   subst hsp
   simp only [add_none] at h4 hc0
   refine ⟨b, o, rfl, World.block_lt_of_cell? W _ hc0, fun i x hx j u hu => ?_⟩
   rw [Nat.add_assoc]
   exact h4 i x hx j u hu
theorem gen_weights {P : Program} {e : TypeId} {d : DataW H} {n : Nat} : ∀ {l : List (DataW H)}, d ∈ l → n ∈ d.weights P e → n ∈ DataW.weightsAll P e l
 | [], h, _ => by cases h
 | x :: l, h, hn => by
   simp only [DataW.weightsAll, List.mem_append]
   rcases List.mem_cons.1 h with rfl | h
   · exact .inl hn
   · exact .inr (gen_weights h hn)
theorem slice_weights {t e : TypeId} (ht : Tryz.prog.underlying t = some (.slice e)) {xs sp : List (DataW H)} {d : DataW H} {n : Nat} (hx : d ∈ xs) (hn : n ∈ d.weights Tryz.prog e) :
   n ∈ (DataW.slice xs sp).weights Tryz.prog t := by
 simp only [DataW.weights, ht, List.mem_cons, List.mem_append]
 exact .inr (.inl (gen_weights hx hn))
end
end Go.Proofs.YtpheiojmcafolaaGreatDoor
namespace Go.Proofs.YtpheiojmcafolaaGreatDoor
open Go.ChangeShapes Go.WideShapes Go.ChangeAt Go.RowKit Go.WideMaps
theorem Tryz.own : ownKnob Tryz.prog.godebug = none := by kernel_rfl
theorem Tryz.laidOut : laidOutB Tryz.prog = true := by kernel_rfl
end Go.Proofs.YtpheiojmcafolaaGreatDoor
namespace Go.Proofs.YtpheiojmcafolaaGreatDoor
set_option maxRecDepth 100000
open Go.ChangeShapes Go.WideShapes Go.RowKit Go.Deep
def ndData {H : Type} (x : Nd) : DataW H := .agg [.lit (.int .i64 x.op), .lit (.int .i64 x.n), .lit (.string x.s.data.toList), .lit (.string x.t.data.toList)]
theorem cells_node : Tryz.prog.cellsOf 37 = 4 := by kernel_rfl
section
variable {H : Type} {enc : TypeId × Value → H} {W : World}
theorem node_trod {base : Nat} {spare : Nat → Bool} {held : Bool} {n : Nat} {cs : List Value} {y : DataW H × List MemPlace} (h : DataW.trod enc Tryz.prog W base spare held n 37 cs = some y) :
   ∃ x : Nd, cs = x.cells ∧ y.1 = ndData x := by
 obtain ⟨xs, m, _, hy, hlen, hxl, hf⟩ := DataW.trod_struct Tryz.underlying37 h
 rw [cells_node] at hlen
 match cs, hlen with
 | [c0, c1, c2, c3], _ =>
   match xs, hxl with
   | [y0, y1, y2, y3], _ =>
     have e0 : DataW.trod enc Tryz.prog W base spare held m 3 (([c0, c1, c2, c3].drop 0).take (Tryz.prog.cellsOf 3)) = some y0 := hf 0 _ rfl
     have e1 : DataW.trod enc Tryz.prog W base spare held m 3 (([c0, c1, c2, c3].drop 1).take (Tryz.prog.cellsOf 3)) = some y1 := hf 1 _ rfl
     have e2 : DataW.trod enc Tryz.prog W base spare held m 9 (([c0, c1, c2, c3].drop 2).take (Tryz.prog.cellsOf 9)) = some y2 := hf 2 _ rfl
     have e3 : DataW.trod enc Tryz.prog W base spare held m 9 (([c0, c1, c2, c3].drop 3).take (Tryz.prog.cellsOf 9)) = some y3 := hf 3 _ rfl
     have k3 : Tryz.prog.cellsOf 3 = 1 := by kernel_rfl
     have k9 : Tryz.prog.cellsOf 9 = 1 := by kernel_rfl
     simp only [k3, k9, List.drop_zero, List.drop_succ_cons, List.take_succ_cons, List.take_zero] at e0 e1 e2 e3
     obtain ⟨a0, q0, r0, _⟩ := DataW.trod_int Tryz.underlying3 e0
     obtain ⟨a1, q1, r1, _⟩ := DataW.trod_int Tryz.underlying3 e1
     obtain ⟨a2, q2, r2, _⟩ := DataW.trod_string Tryz.underlying9 e2
     obtain ⟨a3, q3, r3, _⟩ := DataW.trod_string Tryz.underlying9 e3
     simp only [List.cons.injEq, and_true] at q0 q1 q2 q3
     subst q0 q1 q2 q3 r0 r1 r2 r3
     exact ⟨⟨a0, a1, a2, a3⟩, rfl, by rw [hy]; rfl⟩
end
end Go.Proofs.YtpheiojmcafolaaGreatDoor
namespace Go.Proofs.YtpheiojmcafolaaGreatDoor
open Go.ChangeShapes Go.WideShapes Go.ChangeAt Go.RowKit Go.WideMaps
end Go.Proofs.YtpheiojmcafolaaGreatDoor
namespace Go.Proofs.YtpheiojmcafolaaGreatDoor
open Go.RowKit
def headS (p : List Nd) : ByteArray := (p.head?.map Nd.s).getD ⟨#[]⟩
def kidsGo : Nat → List Nd → List (List Nd)
 | 0, _ => []
 | _ + 1, [] => []
 | k + 1, x :: l =>
   match skP (x :: l) 1 0 with
   | some j => (x :: l).take j :: kidsGo k ((x :: l).drop j)
   | none => []
def ExK : Bool → ByteArray → List (List Nd) → Prop
 | _, _, [] => True
 | r, l, p :: ps => Ex (.one r) p ∧ (r = true → sLate l (headS p) = false) ∧ ExK r (if r = true then headS p else l) ps
theorem ex_ne {b : Bool} {p : List Nd} (h : Ex (.one b) p) : ∃ x xs, p = x :: xs ∧ shapedT x = true ∧ (x.op == 7) = b := by
 cases h with
 | one n body fld hs h7 hb => exact ⟨n, body, rfl, hs, h7⟩
theorem ex_pieces {t : BTag} {xs : List Nd} (h : Ex t xs) : match t with
   | .one _ => True
   | .more c r l => ∃ ps : List (List Nd), ps.length = c ∧ xs = ps.flatten ∧ ExK r l ps := by
 induction h with
 | one n body fld hs h7 hb ih => trivial
 | nil r l => exact ⟨[], rfl, rfl, trivial⟩
 | cons c r l m xs ys hl hx hy ih1 ih2 =>
   obtain ⟨ps, h1, h2, h3⟩ := ih2
   exact ⟨(m :: xs) :: ps, by simp [h1], by rw [List.flatten_cons, ← h2], hx, hl, h3⟩
theorem exk_more : ∀ (ps : List (List Nd)) (r : Bool) (l : ByteArray), ExK r l ps → Ex (.more ps.length r l) ps.flatten
 | [], r, l, _ => .nil r l
 | p :: ps, r, l, h => by
   obtain ⟨x, xs, rfl, _, _⟩ := ex_ne h.1
   exact .cons _ r l x xs _ h.2.1 h.1 (exk_more ps r _ h.2.2)
theorem skP_one {b : Bool} {p : List Nd} (h : Ex (.one b) p) (rest : List Nd) : skP (p ++ rest) 1 0 = some p.length := by
 have hb := bGo_of_ex h [] rest (2 * p.length) (by simp)
 simp only [List.nil_append, List.length_nil, Nat.zero_add] at hb
 have := skP_bGo (p ++ rest) _ _ _ _ hb 0 (Int.le_refl _)
 simp only [List.drop_zero, Int.add_zero] at this
 rw [this, skP_done]
theorem exk_all : ∀ {ps : List (List Nd)} {r : Bool} {l : ByteArray}, ExK r l ps → ∀ p ∈ ps, Ex (.one r) p
 | p :: ps, r, l, h, q, hq => by
   rcases List.mem_cons.1 hq with rfl | hq
   · exact h.1
   · exact exk_all h.2.2 q hq
theorem exk_false : ∀ {ps : List (List Nd)} {l : ByteArray}, (∀ p ∈ ps, Ex (.one false) p) → ExK false l ps
 | [], _, _ => trivial
 | p :: ps, l, h => ⟨h p (by simp), by simp, exk_false fun q hq => h q (by simp [hq])⟩
theorem late_lt (l s : ByteArray) : sLate l s = false ↔ l.toList < s.toList := by
 unfold sLate
 rw [bytesLess_eq]
 constructor
 · intro h
   simp only [Bool.or_eq_false_iff, decide_eq_false_iff_not, beq_eq_false_iff_ne] at h
   by_cases h1 : l.toList < s.toList
   · exact h1
   · rcases le_cases (List.not_lt.1 h1) with h2 | h2
     · exact absurd h2 h.1
     · exact absurd h2 h.2
 · intro h
   simp only [Bool.or_eq_false_iff, decide_eq_false_iff_not, beq_eq_false_iff_ne]
   exact ⟨List.lt_asymm h, fun e => List.lt_irrefl _ (e ▸ h)⟩
def namesOf (ps : List (List Nd)) : List (List UInt8) := ps.map fun p => (headS p).toList
theorem exk_pw : ∀ {ps : List (List Nd)} {l : ByteArray}, ExK true l ps → (namesOf ps).Pairwise (· < ·) ∧ ∀ s ∈ namesOf ps, l.toList < s
 | [], l, _ => ⟨List.Pairwise.nil, by simp [namesOf]⟩
 | p :: ps, l, h => by
   have h2 := (late_lt _ _).1 (h.2.1 rfl)
   have ih := exk_pw (l := headS p) (by simpa using h.2.2)
   refine ⟨List.Pairwise.cons ih.2 ih.1, ?_⟩
   intro s hs
   rcases List.mem_cons.1 hs with rfl | hs
   · exact h2
   · exact List.lt_trans h2 (ih.2 s hs)
theorem exk_of_pw : ∀ {ps : List (List Nd)} {l : ByteArray}, (∀ p ∈ ps, Ex (.one true) p) → (namesOf ps).Pairwise (· < ·) → (∀ s ∈ namesOf ps, l.toList < s) → ExK true l ps
 | [], _, _, _, _ => trivial
 | p :: ps, l, h, hp, hl => by
   have hp' := List.pairwise_cons.1 hp
   exact ⟨h p (by simp), fun _ => (late_lt _ _).2 (hl _ (by simp [namesOf])), exk_of_pw (fun q hq => h q (by simp [hq])) hp'.2 hp'.1⟩
def sortN (ps : List (List Nd)) : List (List Nd) := ps.mergeSort fun a b => decide ((headS a).toList ≤ (headS b).toList)
theorem sortN_perm (ps : List (List Nd)) : (sortN ps).Perm ps := List.mergeSort_perm _ _
theorem sortN_pw {ps : List (List Nd)} (h : (namesOf ps).Nodup) : (namesOf (sortN ps)).Pairwise (· < ·) := by
 have h1 : (sortN ps).Pairwise fun a b => decide ((headS a).toList ≤ (headS b).toList) = true := List.pairwise_mergeSort
   (by intro a b c h1 h2; simp only [decide_eq_true_eq] at h1 h2 ⊢; exact List.le_trans h1 h2)
   (by intro a b; simp only [Bool.or_eq_true, decide_eq_true_eq]; exact List.le_total _ _) _
 have h2 : (namesOf (sortN ps)).Nodup := ((sortN_perm ps).map _).nodup_iff.2 h
 unfold namesOf at h2 ⊢
 rw [List.pairwise_map]
 rw [List.Nodup, List.pairwise_map] at h2
 refine (h1.and h2).imp ?_
 rintro a b ⟨h3, h4⟩
 simp only [decide_eq_true_eq] at h3
 rcases le_cases h3 with h | h
 · exact h
 · exact absurd h h4
def ndsLe (a b : List Nd) : Bool := decide (ndsCmp a b ≤ 0)
def dedupA : List Nd → List (List Nd) → List (List Nd)
 | _, [] => []
 | a, b :: r => if ndsCmp a b = 0 then dedupA a r else b :: dedupA b r
def dedupP : List (List Nd) → List (List Nd)
 | [] => []
 | a :: r => a :: dedupA a r
def setParts (ps : List (List Nd)) : List (List Nd) := dedupP (ps.mergeSort ndsLe)
def setNodes (ps : List (List Nd)) : List Nd := ⟨5, (setParts ps).length, ⟨#[]⟩, ⟨#[]⟩⟩ :: (setParts ps).flatten
def valsErr : List (List Nd) → Int
 | [] => 0
 | v :: r => if valErr v ≠ 0 then valErr v else valsErr r
def setOfP (ps : List (List Nd)) : List Nd × Int := if valsErr ps ≠ 0 then ([], valsErr ps) else if 200 < (setNodes ps).length then ([], 4) else (setNodes ps, 0)
theorem nm_ne {s : List UInt8} (h : nameErr s = 0) : ([] : List UInt8) < s := by
 cases s with
 | nil => simp [nameErr] at h
 | cons a l => exact List.nil_lt_cons a l
theorem fld_name {x : Nd} (h : shapedT x = true) (h7 : x.op = 7) : nameErr x.s.toList = 0 := by
 unfold shapedT at h
 rw [if_neg (by omega), if_neg (by omega), if_neg (by omega), if_pos (by omega)] at h
 simp only [Bool.and_eq_true, beq_iff_eq] at h
 exact h.2
end Go.Proofs.YtpheiojmcafolaaGreatDoor
namespace Go.Proofs.YtpheiojmcafolaaGreatDoor
open Go.RowKit
theorem kids_any : ∀ (ps : List (List Nd)), (∀ p ∈ ps, ∃ b, Ex (.one b) p) → ∀ k, ps.flatten.length ≤ k → kidsGo k ps.flatten = ps
 | [], _, k, _ => by cases k <;> rfl
 | p :: ps, h, k, hk => by
   obtain ⟨b, hb⟩ := h p (by simp)
   obtain ⟨x, xs, rfl, _, _⟩ := ex_ne hb
   rw [List.flatten_cons, List.length_append, List.length_cons] at hk
   match k, hk with
   | 0, hk => omega
   | k + 1, hk =>
     have hs := skP_one hb ps.flatten
     rw [List.flatten_cons]
     rw [List.cons_append] at hs ⊢
     rw [kidsGo, hs]
     simp only
     rw [← List.cons_append, List.take_left, List.drop_left, kids_any ps (fun q hq => h q (by simp [hq])) k (by omega)]
end Go.Proofs.YtpheiojmcafolaaGreatDoor
namespace Go.Proofs.YtpheiojmcafolaaGreatDoor
open Go.RowKit Go.Sort
theorem skP_at {b : Bool} {p : List Nd} (h : Ex (.one b) p) (rest : List Nd) (i : Nat) : skP (p ++ rest) 1 i = some (i + p.length) := by
 have hb := bGo_of_ex h (List.replicate i ⟨0, 0, ⟨#[]⟩, ⟨#[]⟩⟩) rest (2 * p.length) (by simp)
 have := skP_bGo _ _ _ _ _ hb 0 (Int.le_refl _)
 rw [List.append_assoc, List.drop_left, List.length_replicate] at this
 simp only [Int.add_zero] at this
 rw [this, skP_done]
theorem pw_nodup {ds : List (List Nd)} (h : (namesOf ds).Pairwise (· < ·)) : (namesOf ds).Nodup := h.imp fun h e => by rw [e] at h; exact List.lt_irrefl _ h
end Go.Proofs.YtpheiojmcafolaaGreatDoor
namespace Go.Proofs.YtpheiojmcafolaaGreatDoor
open Go.RowKit Go.Sort
structure Cm {α : Type} (c : α → α → Int) : Prop where
 self : ∀ x, c x x = 0
 eq : ∀ x y, c x y = 0 → x = y
 flip : ∀ x y, 0 < c x y ↔ c y x < 0
 trans : ∀ x y z, c x y < 0 → c y z < 0 → c x z < 0
theorem cm_int : Cm cmpI := by
 refine ⟨fun x => ?_, fun x y h => ?_, fun x y => ?_, fun x y z h1 h2 => ?_⟩
 · simp [cmpI]
 · simp only [cmpI] at h; (repeat' split at h) <;> omega
 · simp only [cmpI]; (repeat' split) <;> omega
 · simp only [cmpI] at h1 h2 ⊢; (repeat' split at h1) <;> (repeat' split at h2) <;> (repeat' split) <;> omega
theorem cm_list : Cm Lib.compareBytes := by
 have hs : ∀ x, Lib.compareBytes x x = 0 := fun x => by
   have h1 : ¬ Lib.compareBytes x x < 0 := fun h => List.lt_irrefl _ ((cmp_neg _ _).1 h)
   have h2 : ¬ 0 < Lib.compareBytes x x := fun h => List.lt_irrefl _ ((cmp_pos _ _).1 h)
   omega
 refine ⟨hs, fun x y h => ?_, fun x y => by rw [cmp_pos, cmp_neg], fun x y z h1 h2 => ?_⟩
 · have h1 : ¬ x < y := fun hh => by have := (cmp_neg x y).2 hh; omega
   have h2 : ¬ y < x := fun hh => by have := (cmp_pos x y).2 hh; omega
   rcases le_cases (List.not_lt.1 h2) with h3 | h3
   · exact absurd h3 h1
   · exact h3
 · rw [cmp_neg] at h1 h2 ⊢; exact List.lt_trans h1 h2
theorem Cm.inj {α β : Type} {c : β → β → Int} (h : Cm c) (f : α → β) (hf : ∀ x y, f x = f y → x = y) : Cm fun x y => c (f x) (f y) :=
 ⟨fun _ => h.self _, fun _ _ e => hf _ _ (h.eq _ _ e), fun _ _ => h.flip _ _, fun _ _ _ => h.trans _ _ _⟩
theorem Cm.lex {α β : Type} {c : α → α → Int} {d : β → β → Int} (hc : Cm c) (hd : Cm d) : Cm fun x y : α × β => if c x.1 y.1 = 0 then d x.2 y.2 else c x.1 y.1 := by
 have hz : ∀ x y, c x y = 0 → c y x = 0 := fun x y h => by rw [hc.eq x y h, hc.self]
 refine ⟨fun x => by simp [hc.self, hd.self], fun x y h => ?_, fun x y => ?_, fun x y z h1 h2 => ?_⟩
 · by_cases h0 : c x.1 y.1 = 0
   · simp only [h0, if_true] at h
     exact Prod.ext (hc.eq _ _ h0) (hd.eq _ _ h)
   · simp only [h0, if_false] at h
 · by_cases h0 : c x.1 y.1 = 0
   · have h1 := hz _ _ h0
     simp only [h0, h1, if_true]
     exact hd.flip _ _
   · have h1 : ¬ c y.1 x.1 = 0 := fun h => h0 (hz _ _ h)
     simp only [h0, h1, if_false]
     exact hc.flip _ _
 · by_cases h0 : c x.1 y.1 = 0
   · simp only [h0, if_true] at h1
     have e := hc.eq _ _ h0
     rw [e]
     by_cases h3 : c y.1 z.1 = 0
     · simp only [h3, if_true] at h2 ⊢
       exact hd.trans _ _ _ h1 h2
     · simp only [h3, if_false] at h2 ⊢
       exact h2
   · simp only [h0, if_false] at h1
     by_cases h3 : c y.1 z.1 = 0
     · have e := hc.eq _ _ h3
       rw [← e]
       simp only [h0, if_false]
       exact h1
     · simp only [h3, if_false] at h2
       have h4 := hc.trans _ _ _ h1 h2
       have h5 : ¬ c x.1 z.1 = 0 := by omega
       simp only [h5, if_false]
       exact h4
theorem bytes_ext {x y : ByteArray} (h : x.data.toList = y.data.toList) : x = y := by
 cases x; cases y; simp at h; rw [h]
theorem cm_nd : Cm ndCmp := by
 have h : ndCmp = fun x y : Nd => if cmpI x.op y.op = 0 then (if cmpI x.n y.n = 0 then (if Lib.compareBytes x.s.data.toList y.s.data.toList = 0 then Lib.compareBytes x.t.data.toList y.t.data.toList else Lib.compareBytes x.s.data.toList y.s.data.toList) else cmpI x.n y.n) else cmpI x.op y.op := by
   funext x y
   unfold ndCmp
   simp only [orI]
   split
   · split
     · split
       · split
         · rename_i h; exact h.symm
         · rfl
       · rfl
     · rfl
   · rfl
 rw [h]
 have hb : Cm fun x y : ByteArray => Lib.compareBytes x.data.toList y.data.toList := cm_list.inj (fun x : ByteArray => x.data.toList) fun _ _ => bytes_ext
 exact (cm_int.lex (cm_int.lex (hb.lex hb))).inj (fun x : Nd => (x.op, x.n, x.s, x.t)) fun x y h => by
   cases x; cases y; simp at h; simp [h]
theorem cm_nds : Cm ndsCmp := by
 have hn := cm_nd
 have hz : ∀ x y, ndCmp x y = 0 → ndCmp y x = 0 := fun x y h => by rw [hn.eq x y h, hn.self]
 refine ⟨fun x => ?_, fun x => ?_, fun x => ?_, fun x => ?_⟩
 · induction x with
   | nil => rfl
   | cons a r ih => simp [ndsCmp, hn.self, ih]
 · induction x with
   | nil => intro y h; cases y with
     | nil => rfl
     | cons b s => simp [ndsCmp] at h
   | cons a r ih =>
     intro y h
     cases y with
     | nil => simp [ndsCmp] at h
     | cons b s =>
       rw [ndsCmp] at h
       split at h
       · rename_i h0; rw [hn.eq _ _ h0, ih s h]
       · rename_i h0; exact absurd h h0
 · induction x with
   | nil => intro y; cases y with
     | nil => simp [ndsCmp]
     | cons b s => simp [ndsCmp]
   | cons a r ih =>
     intro y
     cases y with
     | nil => simp [ndsCmp]
     | cons b s =>
       rw [ndsCmp, ndsCmp]
       by_cases h0 : ndCmp a b = 0
       · rw [if_pos h0, if_pos (hz _ _ h0)]; exact ih s
       · rw [if_neg h0, if_neg (fun h => h0 (hz _ _ h))]; exact hn.flip _ _
 · induction x with
   | nil => intro y z h1 h2; cases y with
     | nil => simp [ndsCmp] at h1
     | cons b s => cases z with
       | nil => simp [ndsCmp] at h2
       | cons d u => simp [ndsCmp]
   | cons a r ih =>
     intro y z h1 h2
     cases y with
     | nil => simp [ndsCmp] at h1
     | cons b s => cases z with
       | nil => simp [ndsCmp] at h2
       | cons d u =>
         rw [ndsCmp] at h1 h2 ⊢
         by_cases h0 : ndCmp a b = 0
         · rw [if_pos h0] at h1
           have e := hn.eq _ _ h0
           rw [e]
           by_cases h3 : ndCmp b d = 0
           · rw [if_pos h3] at h2 ⊢; exact ih _ _ h1 h2
           · rw [if_neg h3] at h2 ⊢; exact h2
         · rw [if_neg h0] at h1
           by_cases h3 : ndCmp b d = 0
           · rw [← hn.eq _ _ h3, if_neg h0]; exact h1
           · rw [if_neg h3] at h2
             have h4 := hn.trans _ _ _ h1 h2
             rw [if_neg (by omega)]; exact h4
theorem Cm.swo {α : Type} {c : α → α → Int} (h : Cm c) : SWO (ltOf c) := by
 refine ⟨fun x => by simp [ltOf, h.self], fun x y z h1 h2 => ?_, fun x y z h1 h2 => ?_⟩
 · simp only [ltOf, decide_eq_true_eq] at h1 h2 ⊢; exact h.trans _ _ _ h1 h2
 · simp only [ltOf, decide_eq_false_iff_not] at h1 h2 ⊢
   intro h3
   have h4 : 0 < c z x := (h.flip _ _).2 h3
   by_cases e1 : c x y = 0
   · rw [h.eq _ _ e1] at h3; exact h2 h3
   · have a1 : c y x < 0 := (h.flip _ _).1 (by omega)
     by_cases e2 : c y z = 0
     · rw [← h.eq _ _ e2] at h3; exact h1 h3
     · have a2 : c z y < 0 := (h.flip _ _).1 (by omega)
       have := h.trans _ _ _ a2 a1
       omega
def LtN (a b : List Nd) : Prop := ndsCmp a b < 0
theorem ltN_trans (x y z : List Nd) : LtN x y → LtN y z → LtN x z := cm_nds.trans x y z
theorem le_sorted (qs : List (List Nd)) : (qs.mergeSort ndsLe).Pairwise fun a b => ndsCmp a b ≤ 0 := by
 have h := cm_nds.swo
 have h1 : (qs.mergeSort ndsLe).Pairwise fun a b => ndsLe a b = true := List.pairwise_mergeSort
   (by
     intro a b c h1 h2
     simp only [ndsLe, decide_eq_true_eq] at h1 h2 ⊢
     have := h.ntrans c b a
     simp only [ltOf, decide_eq_false_iff_not] at this
     have f1 := cm_nds.flip a b
     have f2 := cm_nds.flip b c
     have f3 := cm_nds.flip a c
     by_cases hh : ndsCmp c a < 0
     · exact absurd hh (this (fun hx => by have := f2.2 hx; omega) (fun hx => by have := f1.2 hx; omega))
     · have : ¬ 0 < ndsCmp a c := fun hx => hh (f3.1 hx)
       omega)
   (by
     intro a b
     simp only [ndsLe, Bool.or_eq_true, decide_eq_true_eq]
     have := cm_nds.flip a b
     by_cases hh : ndsCmp a b ≤ 0
     · exact .inl hh
     · exact .inr (by have := this.1 (by omega); omega)) _
 refine h1.imp fun h => ?_
 simpa [ndsLe] using h
theorem dedup_pw : ∀ (l : List (List Nd)) (a : List Nd), (a :: l).Pairwise (fun a b => ndsCmp a b ≤ 0) → (a :: dedupA a l).Pairwise LtN
 | [], a, _ => by simp [dedupA]
 | b :: r, a, h => by
   have h1 := List.pairwise_cons.1 h
   have h2 := List.pairwise_cons.1 h1.2
   rw [dedupA]
   by_cases h0 : ndsCmp a b = 0
   · rw [if_pos h0]
     exact dedup_pw r a (List.pairwise_cons.2 ⟨fun c hc => h1.1 c (by simp [hc]), h2.2⟩)
   · rw [if_neg h0]
     have ih := dedup_pw r b h1.2
     have hab : LtN a b := by have := h1.1 b (by simp); unfold LtN; omega
     refine List.pairwise_cons.2 ⟨fun c hc => ?_, ih⟩
     rcases List.mem_cons.1 hc with rfl | hc
     · exact hab
     · exact ltN_trans _ _ _ hab ((List.pairwise_cons.1 ih).1 c hc)
theorem setParts_pw (qs : List (List Nd)) : (setParts qs).Pairwise LtN := by
 have h := le_sorted qs
 unfold setParts
 cases hq : qs.mergeSort ndsLe with
 | nil => simp [dedupP]
 | cons a l => rw [hq] at h; exact dedup_pw l a h
theorem dedup_sub : ∀ (l : List (List Nd)) (a : List Nd), (dedupA a l).Sublist l
 | [], a => by simp [dedupA]
 | b :: r, a => by
   rw [dedupA]
   split
   · exact (dedup_sub r a).cons _
   · exact (dedup_sub r b).cons_cons _
theorem dedupP_sub : ∀ (l : List (List Nd)), (dedupP l).Sublist l
 | [] => .slnil
 | a :: l => (dedup_sub l a).cons_cons _
end Go.Proofs.YtpheiojmcafolaaGreatDoor
namespace Go.Proofs.YtpheiojmcafolaaGreatDoor
open Go.RowKit Go.Sort
def ChainV : Option (List Nd) → List (List Nd) → Prop
 | _, [] => True
 | l, p :: ps => vLate l p = false ∧ ChainV (some p) ps
def RiseF : ByteArray → List (List Nd) → Prop
 | _, [] => True
 | l, p :: ps => sLate l (headS p) = false ∧ RiseF (headS p) ps
inductive Vx : List Nd → Prop where
 | leaf (n : Nd) : shapedV n = true → ¬ n.op = 5 → ¬ n.op = 6 → ¬ n.op = 7 → Vx [n]
 | set (n : Nd) (ps : List (List Nd)) : shapedV n = true → n.op = 5 → n.n = ps.length → (∀ p ∈ ps, Vx p) → ChainV none ps → Vx (n :: ps.flatten)
 | rcd (n : Nd) (ps : List (List Nd)) : shapedV n = true → n.op = 6 → n.n = ps.length → (∀ p ∈ ps, ∃ f v, p = f :: v) → (∀ f v, f :: v ∈ ps → f.op = 7 ∧ shapedV f = true) → (∀ f v, f :: v ∈ ps → Vx v) → RiseF ⟨#[]⟩ ps → Vx (n :: ps.flatten)
def Fx (p : List Nd) : Prop := ∃ f v, p = f :: v ∧ f.op = 7 ∧ shapedV f = true ∧ Vx v
theorem Vx.ne {xs : List Nd} (h : Vx xs) : ∃ x r, xs = x :: r ∧ shapedV x = true ∧ ¬ x.op = 7 := by
 cases h with
 | leaf n h h5 h6 h7 => exact ⟨n, [], rfl, h, h7⟩
 | set n ps h h5 => exact ⟨n, _, rfl, h, by omega⟩
 | rcd n ps h h6 => exact ⟨n, _, rfl, h, by omega⟩
theorem Vx.rcd' {n : Nd} {ps : List (List Nd)} (h : shapedV n = true) (h6 : n.op = 6) (hn : n.n = ps.length) (hp : ∀ p ∈ ps, Fx p) (hr : RiseF ⟨#[]⟩ ps) : Vx (n :: ps.flatten) :=
 .rcd n ps h h6 hn (fun p hp' => by obtain ⟨f, v, e, _⟩ := hp p hp'; exact ⟨f, v, e⟩)
   (fun f v hm => by obtain ⟨f', v', e, a, b, _⟩ := hp _ hm; injection e with e1 e2; subst e1; exact ⟨a, b⟩)
   (fun f v hm => by obtain ⟨f', v', e, a, b, c⟩ := hp _ hm; injection e with e1 e2; subst e2; exact c) hr
theorem vx_of_vGo (e : List Nd) : ∀ (f : Nat) (t : VTag) (i j : Nat), vGo e f t i = some j →
   match t with
   | .one => Vx (piece e i j)
   | .set c l => ∃ ps : List (List Nd), ps.length = c ∧ piece e i j = ps.flatten ∧ (∀ p ∈ ps, Vx p) ∧ ChainV l ps
   | .flds c l => ∃ ps : List (List Nd), ps.length = c ∧ piece e i j = ps.flatten ∧ (∀ p ∈ ps, Fx p) ∧ RiseF l ps := by
 intro f
 induction f with
 | zero =>
   intro t i j h
   cases t with
   | one => simp [vGo] at h
   | set c l => simp only [vGo] at h; split at h <;> simp at h; subst h; rename_i hc; subst hc; exact ⟨[], rfl, by rw [piece_self]; rfl, by simp, trivial⟩
   | flds c l => simp only [vGo] at h; split at h <;> simp at h; subst h; rename_i hc; subst hc; exact ⟨[], rfl, by rw [piece_self]; rfl, by simp, trivial⟩
 | succ f ih =>
   intro t i j h
   have hb := vGo_bound e _ _ _ _ h
   cases t with
   | one =>
     have hij := hb.2.2 rfl
     rw [vGo] at h
     split at h
     · cases h
     · rename_i n hn
       split at h
       · cases h
       · rename_i hsh
         have hsh : shapedV n = true := by simpa using hsh
         show Vx (piece e i j)
         rw [piece_cons hn hij]
         split at h
         · rename_i h5
           obtain ⟨ps, h1, h2, h3, h4⟩ := ih _ _ _ h
           rw [h2]
           have h0 : 0 ≤ n.n := by simp [shapedV, h5] at hsh; omega
           exact .set n ps hsh h5 (by omega) h3 h4
         · rename_i h5
           split at h
           · rename_i h6
             obtain ⟨ps, h1, h2, h3, h4⟩ := ih _ _ _ h
             rw [h2]
             have h0 : 0 ≤ n.n := by simp [shapedV, h6] at hsh; omega
             exact .rcd' hsh h6 (by omega) h3 h4
           · rename_i h6
             split at h
             · cases h
             · rename_i h7
               injection h with h
               subst h
               rw [piece_self]
               exact .leaf n hsh h5 h6 h7
   | set c l =>
     cases c with
     | zero => simp only [vGo, Option.some.injEq] at h; subst h; exact ⟨[], rfl, by rw [piece_self]; rfl, by simp, trivial⟩
     | succ c =>
       simp only [vGo] at h
       split at h
       · cases h
       · rename_i k hk
         split at h
         · cases h
         · rename_i hl
           have b1 := vGo_bound e _ _ _ _ hk
           have b2 := vGo_bound e _ _ _ _ h
           have a1 : Vx (piece e i k) := ih _ _ _ hk
           obtain ⟨ps, h1, h2, h3, h4⟩ := ih _ _ _ h
           refine ⟨piece e i k :: ps, by simp [h1], by rw [piece_split e b1.2.1 b2.2.1, h2]; rfl, ?_, by simpa using hl, h4⟩
           intro p hp
           rcases List.mem_cons.1 hp with rfl | hp
           · exact a1
           · exact h3 p hp
   | flds c l =>
     cases c with
     | zero => simp only [vGo, Option.some.injEq] at h; subst h; exact ⟨[], rfl, by rw [piece_self]; rfl, by simp, trivial⟩
     | succ c =>
       simp only [vGo] at h
       split at h
       · cases h
       · rename_i m hm
         split at h
         · cases h
         · rename_i hl
           split at h
           · cases h
           · rename_i k hk
             have b1 := vGo_bound e _ _ _ _ hk
             have b2 := vGo_bound e _ _ _ _ h
             have a1 : Vx (piece e (i + 1) k) := ih _ _ _ hk
             obtain ⟨ps, h1, h2, h3, h4⟩ := ih _ _ _ h
             have hik : i < k := by have := b1.2.2 rfl; omega
             simp only [not_or, Decidable.not_not, Bool.not_eq_true] at hl
             have hl2 : shapedV m = true := by simpa using hl.2.1
             have hp0 : piece e i k = m :: piece e (i + 1) k := piece_cons hm hik
             refine ⟨(m :: piece e (i + 1) k) :: ps, by simp [h1], by rw [piece_split e (Nat.le_of_lt hik) b2.2.1, h2, hp0]; rfl, ?_, hl.2.2, h4⟩
             intro p hp
             rcases List.mem_cons.1 hp with rfl | hp
             · exact ⟨m, _, rfl, hl.1, hl2, a1⟩
             · exact h3 p hp
theorem piece_mid (a p b : List Nd) : piece (a ++ p ++ b) a.length (a.length + p.length) = p := by
 unfold piece
 rw [List.append_assoc, List.drop_left]
 simp
def Rd (p : List Nd) : Prop := ∀ (a b : List Nd) (f : Nat), 2 * p.length ≤ f → vGo (a ++ p ++ b) f .one a.length = some (a.length + p.length)
theorem set_rd : ∀ (ps : List (List Nd)) (l : Option (List Nd)), (∀ p ∈ ps, Rd p ∧ 0 < p.length) → ChainV l ps → ∀ (a b : List Nd) (f : Nat), 2 * ps.flatten.length + 1 ≤ f →
   vGo (a ++ ps.flatten ++ b) f (.set ps.length l) a.length = some (a.length + ps.flatten.length)
 | [], l, _, _, a, b, f, hf => by
   match f, hf with
   | f + 1, _ => simp [vGo]
 | p :: ps, l, hp, hc, a, b, f, hf => by
   have h1 := hp p (by simp)
   rw [List.flatten_cons, List.length_append] at hf
   match f, hf with
   | f + 1, hf =>
     have r1 := h1.1 a (ps.flatten ++ b) f (by omega)
     have e1 : a ++ p ++ (ps.flatten ++ b) = a ++ (p :: ps).flatten ++ b := by simp
     rw [e1] at r1
     have e2 : piece (a ++ (p :: ps).flatten ++ b) a.length (a.length + p.length) = p := by rw [← e1]; exact piece_mid a p _
     have r2 := set_rd ps (some p) (fun q hq => hp q (by simp [hq])) hc.2 (a ++ p) b f (by omega)
     have e3 : a ++ p ++ ps.flatten ++ b = a ++ (p :: ps).flatten ++ b := by simp
     rw [e3, List.length_append] at r2
     simp only [List.length_cons, vGo, r1, e2]
     rw [if_neg (by rw [hc.1]; simp), r2, List.flatten_cons, List.length_append]
     congr 1
     omega
theorem fld_rd : ∀ (ps : List (List Nd)) (l : ByteArray), (∀ p ∈ ps, ∃ f v, p = f :: v ∧ f.op = 7 ∧ shapedV f = true ∧ Rd v ∧ 0 < v.length) → RiseF l ps → ∀ (a b : List Nd) (f : Nat), 2 * ps.flatten.length + 1 ≤ f →
   vGo (a ++ ps.flatten ++ b) f (.flds ps.length l) a.length = some (a.length + ps.flatten.length)
 | [], l, _, _, a, b, f, hf => by
   match f, hf with
   | f + 1, _ => simp [vGo]
 | p :: ps, l, hp, hc, a, b, f, hf => by
   obtain ⟨m, v, rfl, h7, hs, hr, hv0⟩ := hp p (by simp)
   rw [List.flatten_cons, List.length_append, List.length_cons] at hf
   match f, hf with
   | f + 1, hf =>
     have r1 := hr (a ++ [m]) (ps.flatten ++ b) f (by omega)
     have e1 : a ++ [m] ++ v ++ (ps.flatten ++ b) = a ++ ((m :: v) :: ps).flatten ++ b := by simp
     rw [e1, List.length_append, List.length_singleton] at r1
     have r2 := fld_rd ps m.s (fun q hq => hp q (by simp [hq])) hc.2 (a ++ m :: v) b f (by omega)
     have e3 : a ++ m :: v ++ ps.flatten ++ b = a ++ ((m :: v) :: ps).flatten ++ b := by simp
     rw [e3, List.length_append, List.length_cons] at r2
     have hm : (a ++ ((m :: v) :: ps).flatten ++ b)[a.length]? = some m := by simp
     have hl : sLate l m.s = false := hc.1
     simp only [List.length_cons, vGo, hm]
     rw [if_neg (by simp [h7, hs, hl]), r1]
     simp only
     rw [show a.length + 1 + v.length = a.length + (v.length + 1) from by omega, r2, List.flatten_cons, List.length_append, List.length_cons]
     congr 1
     omega
theorem rd_vx {xs : List Nd} (h : Vx xs) : Rd xs := by
 induction h with
 | leaf n hs h5 h6 h7 =>
   intro a b f hf
   match f, hf with
   | f + 1, _ => simp [vGo, hs, h5, h6, h7]
 | set n ps hs h5 hn hv hc ih =>
   intro a b f hf
   match f, hf with
   | f + 1, hf =>
     rw [List.length_cons] at hf
     have r := set_rd ps none (fun p hp => ⟨ih p hp, by obtain ⟨x, r, e, _⟩ := (hv p hp).ne; rw [e]; simp⟩) hc (a ++ [n]) b f (by omega)
     have e1 : a ++ [n] ++ ps.flatten ++ b = a ++ (n :: ps.flatten) ++ b := by simp
     rw [e1, List.length_append, List.length_singleton] at r
     have hm : (a ++ (n :: ps.flatten) ++ b)[a.length]? = some n := by simp
     simp only [vGo, hm, hs, h5]
     simp only [Bool.true_eq_false, if_false, if_true]
     rw [show n.n.toNat = ps.length from by omega, r, List.length_cons]
     congr 1
     omega
 | rcd n ps hs h6 hn h1 h2 h3 hc ih =>
   intro a b f hf
   match f, hf with
   | f + 1, hf =>
     rw [List.length_cons] at hf
     have r := fld_rd ps ⟨#[]⟩ (fun p hp => by
       obtain ⟨m, v, rfl⟩ := h1 p hp
       obtain ⟨a1, a2⟩ := h2 m v hp
       exact ⟨m, v, rfl, a1, a2, ih m v hp, by obtain ⟨x, r, e, _⟩ := (h3 m v hp).ne; rw [e]; simp⟩) hc (a ++ [n]) b f (by omega)
     have e1 : a ++ [n] ++ ps.flatten ++ b = a ++ (n :: ps.flatten) ++ b := by simp
     rw [e1, List.length_append, List.length_singleton] at r
     have hm : (a ++ (n :: ps.flatten) ++ b)[a.length]? = some n := by simp
     have h5 : ¬ n.op = 5 := by omega
     simp only [vGo, hm, hs, h6]
     simp only [Bool.true_eq_false, if_false, if_true]
     rw [if_neg (by omega), show n.n.toNat = ps.length from by omega, r, List.length_cons]
     congr 1
     omega
theorem val_iff (e : List Nd) : valErr e = 0 ↔ e.length ≤ 200 ∧ Vx e := by
 unfold valErr
 constructor
 · intro h
   split at h
   · cases h
   · split at h
     · rename_i h1 h2
       have := vx_of_vGo e _ _ _ _ h2
       have h3 : Vx (piece e 0 e.length) := this
       rw [show piece e 0 e.length = e from by simp [piece]] at h3
       exact ⟨by omega, h3⟩
     · cases h
 · rintro ⟨h1, h2⟩
   have r := rd_vx h2 [] [] (2 * e.length) (Nat.le_refl _)
   simp only [List.nil_append, List.append_nil, List.length_nil, Nat.zero_add] at r
   rw [if_neg (by omega), if_pos r]
theorem shaped_tv {n : Nd} (h : shapedV n = true) : shapedT n = true := by
 by_cases h5 : n.op = 5 ∨ n.op = 6
 · unfold shapedT
   rw [if_neg (by omega), if_pos h5]
   unfold shapedV at h
   rw [if_neg (by omega), if_neg (by omega), if_neg (by omega), if_neg (by omega), if_pos h5] at h
   exact h
 · by_cases h7 : n.op = 7
   · unfold shapedT
     rw [if_neg (by omega), if_neg (by omega), if_neg (by omega), if_pos (by omega)]
     unfold shapedV at h
     rw [if_neg (by omega), if_neg (by omega), if_neg (by omega), if_neg (by omega), if_neg (by omega), if_pos h7] at h
     exact h
   · have h1 : n.op = 1 ∨ n.op = 2 ∨ n.op = 3 ∨ n.op = 4 := by
       unfold shapedV at h
       by_cases a1 : n.op = 1
       · omega
       · by_cases a2 : n.op = 2
         · omega
         · by_cases a3 : n.op = 3
           · omega
           · by_cases a4 : n.op = 4
             · omega
             · rw [if_neg a1, if_neg a2, if_neg a3, if_neg a4, if_neg h5, if_neg h7] at h; cases h
     unfold shapedT
     rw [if_pos h1, (val_iff [n]).2 ⟨by simp, .leaf n h (by omega) (by omega) h7⟩]
     rfl
theorem ex_one {p : List Nd} {b : Bool} (h : Ex (.one b) p) (r : Bool) (hr : r = b) (hb : r = false) : Ex (.more 1 r ⟨#[]⟩) p := by
 subst hr; subst hb
 obtain ⟨x, xs, rfl, _, _⟩ := ex_ne h
 have := Ex.cons 0 false ⟨#[]⟩ x xs [] (by simp) h (.nil _ _)
 simpa using this
theorem fx_ex {f : Nd} {v : List Nd} (h7 : f.op = 7) (hs : shapedV f = true) (hv : Ex (.one false) v) : Ex (.one true) (f :: v) := by
 refine .one f v true (shaped_tv hs) (by simp [h7]) ?_
 have : ndParts f = 1 := by simp [ndParts, h7]
 rw [this, show (f.op == 6) = false from by simp [h7]]
 exact ex_one hv false rfl rfl
theorem rise_exk : ∀ {ps : List (List Nd)} {l : ByteArray}, (∀ p ∈ ps, Ex (.one true) p) → RiseF l ps → ExK true l ps
 | [], _, _, _ => trivial
 | p :: ps, l, h, hr => ⟨h p (by simp), fun _ => hr.1, rise_exk (fun q hq => h q (by simp [hq])) hr.2⟩
theorem exk_rise : ∀ {ps : List (List Nd)} {l : ByteArray}, ExK true l ps → RiseF l ps
 | [], _, _ => trivial
 | _ :: _, _, h => ⟨h.2.1 rfl, exk_rise h.2.2⟩
theorem vx_ex {xs : List Nd} (h : Vx xs) : Ex (.one false) xs := by
 induction h with
 | leaf n hs h5 h6 h7 =>
   refine .one n [] false (shaped_tv hs) (by simp [h7]) ?_
   have h1 : n.op = 1 ∨ n.op = 2 ∨ n.op = 3 ∨ n.op = 4 := by
     unfold shapedV at hs
     by_cases a1 : n.op = 1
     · omega
     · by_cases a2 : n.op = 2
       · omega
       · by_cases a3 : n.op = 3
         · omega
         · by_cases a4 : n.op = 4
           · omega
           · rw [if_neg a1, if_neg a2, if_neg a3, if_neg a4, if_neg (by omega), if_neg h7] at hs; cases hs
   have : ndParts n = 0 := by rcases h1 with h | h | h | h <;> simp [ndParts, h]
   rw [this]
   exact .nil _ _
 | set n ps hs h5 hn hv hc ih =>
   refine .one n _ false (shaped_tv hs) (by simp [h5]) ?_
   have : ndParts n = ps.length := by simp [ndParts, h5, hn]
   rw [this, show (n.op == 6) = false from by simp [h5], Int.toNat_natCast]
   exact exk_more ps false _ (exk_false ih)
 | rcd n ps hs h6 hn h1 h2 h3 hc ih =>
   refine .one n _ false (shaped_tv hs) (by simp [h6]) ?_
   have : ndParts n = ps.length := by simp [ndParts, h6, hn]
   rw [this, show (n.op == 6) = true from by simp [h6], Int.toNat_natCast]
   refine exk_more ps true _ (rise_exk (fun p hp => ?_) hc)
   obtain ⟨f, v, rfl⟩ := h1 p hp
   obtain ⟨a1, a2⟩ := h2 f v hp
   exact fx_ex a1 a2 (ih f v hp)
theorem chain_of : ∀ {ps : List (List Nd)} {l : Option (List Nd)}, ps.Pairwise LtN → (∀ a, l = some a → ∀ p ∈ ps, LtN a p) → ChainV l ps
 | [], _, _, _ => trivial
 | p :: ps, l, h, hl => by
   have h' := List.pairwise_cons.1 h
   refine ⟨?_, chain_of h'.2 (by rintro a ⟨rfl⟩ q hq; exact h'.1 q hq)⟩
   cases l with
   | none => rfl
   | some a => have := hl a rfl p (by simp); unfold LtN at this; simp only [vLate, decide_eq_false_iff_not]; omega
end Go.Proofs.YtpheiojmcafolaaGreatDoor
namespace Go.Proofs.YtpheiojmcafolaaGreatDoor
open Go.RowKit Go.Sort
theorem mem_setParts {qs : List (List Nd)} {p : List Nd} (h : p ∈ setParts qs) : p ∈ qs := (List.mergeSort_perm _ _).mem_iff.1 ((dedupP_sub _).subset h)
theorem nodup_rise {qs : List (List Nd)} (h : ∀ q ∈ qs, Ex (.one true) q) (hn : (namesOf qs).Nodup) : ExK true ⟨#[]⟩ (sortN qs) := by
 refine exk_of_pw (fun q hq => h q ((sortN_perm qs).mem_iff.1 hq)) (sortN_pw hn) ?_
 intro s hs'
 obtain ⟨q, hq, rfl⟩ := List.mem_map.1 hs'
 obtain ⟨x, xs, rfl, hsx, hx7⟩ := ex_ne (h q ((sortN_perm qs).mem_iff.1 hq))
 rw [show (⟨#[]⟩ : ByteArray).toList = [] from by rw [ByteArray.toList_eq]]
 exact nm_ne (fld_name hsx (by simpa using hx7))
theorem map_id {α : Type} {f : α → α} : ∀ (l : List α), (∀ x ∈ l, f x = x) → l.map f = l
 | [], _ => rfl
 | x :: l, h => by rw [List.map_cons, h x (by simp), map_id l fun y hy => h y (by simp [hy])]
end Go.Proofs.YtpheiojmcafolaaGreatDoor
namespace Go.Proofs.YtpheiojmcafolaaGreatDoor
set_option maxRecDepth 100000
open Go.ChangeShapes Go.WideShapes Go.RowKit Go.Deep
def strD {H : Type} (s : ByteArray) : DataW H := .lit (.string s.data.toList)
theorem cells_int : Tryz.prog.cellsOf 3 = 1 := by kernel_rfl
theorem cells_str : Tryz.prog.cellsOf 9 = 1 := by kernel_rfl
section
variable {H : Type}
theorem size_of_weight {s : ByteArray} (h : s.data.toList.length ≤ reachBytes) : s.size ≤ 140737488351232 := by
 rw [← ByteArray.toList_eq, toList_len] at h
 simpa only [reachBytes] using h
theorem sized_at {ts : List TypeId} {ds : List (DataW H)} (h : (DataW.weightsEach Tryz.prog ts ds).all (· ≤ reachBytes) = true) {j : Nat} {t : TypeId} {d : DataW H} (ht : ts[j]? = some t) (hd : ds[j]? = some d) : ∀ n, n ∈ d.weights Tryz.prog t → n ≤ reachBytes := fun n hn => by
 have := List.all_eq_true.1 h n (DataW.weights_mem_each ht hd n hn)
 simpa using this
end
end Go.Proofs.YtpheiojmcafolaaGreatDoor
namespace Go.Proofs.YtpheiojmcafolaaGreatDoor
set_option maxRecDepth 100000
open Go.ChangeShapes Go.WideShapes Go.RowKit Go.Deep
section
variable {H : Type} {enc : TypeId × Value → H} {W : World}
end
end Go.Proofs.YtpheiojmcafolaaGreatDoor
namespace Go.Proofs.YtpheiojmcafolaaGreatDoor
open Go.RowKit
def letB (c : UInt8) : Bool := letterI (c.toNat : Int)
def bsOf (l : List UInt8) : ByteArray := ⟨l.toArray⟩
end Go.Proofs.YtpheiojmcafolaaGreatDoor
namespace Go.Proofs.YtpheiojmcafolaaGreatDoor
open Go.RowKit
end Go.Proofs.YtpheiojmcafolaaGreatDoor
namespace Go.Proofs.YtpheiojmcafolaaGreatDoor
open Go.RowKit
def escB (b : UInt8) : Bool := b == 34 || b == 92
def esc1 (b : UInt8) : List UInt8 := if escB b then [92, b] else [b]
def escP (l : List UInt8) : List UInt8 := l.flatMap esc1
def escN (l : List UInt8) : Nat := l.countP escB
theorem escP_len (l : List UInt8) : (escP l).length = l.length + escN l := by
 induction l with
 | nil => rfl
 | cons b l ih =>
   simp only [escP, List.flatMap_cons, List.length_append, escN, List.countP_cons, List.length_cons] at ih ⊢
   rw [ih]
   unfold esc1
   cases h : escB b <;> simp <;> omega
theorem escP_snoc (l : List UInt8) (b : UInt8) : escP (l ++ [b]) = escP l ++ esc1 b := by simp [escP]
theorem escN_snoc (l : List UInt8) (b : UInt8) : escN (l ++ [b]) = escN l + if escB b then 1 else 0 := by
 simp [escN, List.countP_append, List.countP_cons]
theorem escN_zero (l : List UInt8) (h : escN l = 0) : escP l = l := by
 induction l with
 | nil => rfl
 | cons b l ih =>
   simp only [escN, List.countP_cons] at h ih
   have hb : escB b = false := by cases hq : escB b <;> simp [hq] at h ⊢
   show esc1 b ++ escP l = _
   rw [ih (by omega), esc1, if_neg (by simp [hb])]; rfl
theorem escN_count (l : List UInt8) : Lib.countByte l 34 + Lib.countByte l 92 = escN l := by
 unfold Lib.countByte escN
 induction l with
 | nil => rfl
 | cons b l ih =>
   simp only [List.count_cons, List.countP_cons, escB]
   by_cases h1 : b = 34
   · subst h1; simp; omega
   · by_cases h2 : b = 92
     · subst h2; simp; omega
     · simp [h1, h2]; exact ih
theorem escN_le (l : List UInt8) : escN l ≤ l.length := List.countP_le_length
theorem escB_yes (b : UInt8) : escB b = true ↔ (b.toNat = 34 ∨ b.toNat = 92) := by
 simp only [escB, Bool.or_eq_true, beq_iff_eq]
 constructor
 · rintro (h | h) <;> subst h <;> simp
 · rintro (h | h)
   · exact .inl (UInt8.toNat_inj.1 (by rw [h]; rfl))
   · exact .inr (UInt8.toNat_inj.1 (by rw [h]; rfl))
theorem escP_take (l : List UInt8) (k : Nat) : (escP (l.take k)).length ≤ l.length + escN l := by
 rw [← escP_len]
 have h : escP l = escP (l.take k) ++ escP (l.drop k) := by unfold escP; rw [← List.flatMap_append, List.take_append_drop]
 rw [h, List.length_append]; omega
def byC (l : List UInt8) : List Value := l.map fun b => .int .u8 (b.toNat : Int)
theorem byC_append (a b : List UInt8) : byC (a ++ b) = byC a ++ byC b := by simp [byC]
theorem byC_len (a : List UInt8) : (byC a).length = a.length := by simp [byC]
end Go.Proofs.YtpheiojmcafolaaGreatDoor
namespace Go.Proofs.YtpheiojmcafolaaGreatDoor
open Go.RowKit
def quoteV (l : List UInt8) : List UInt8 := if textErr l = 0 then 34 :: (escP l ++ [34]) else []
theorem escP_bound (l : List UInt8) : (escP l).length ≤ 2 * l.length := by have := escP_len l; have := escN_le l; omega
theorem quoteV_len (l : List UInt8) : (quoteV l).length ≤ 122 := by
 unfold quoteV
 split
 · rename_i h
   unfold textErr at h
   split at h
   · cases h
   · have := escP_bound l
     simp only [List.length_cons, List.length_append, List.length_nil]; omega
 · simp
end Go.Proofs.YtpheiojmcafolaaGreatDoor
