/-
 LISTS OF NODES IN MEMORY, off the row into which their slices are collected.
 PLAIN WORDS: what is to be moved, piece by piece.
 PLAIN LAWS: an expression's value, piece by piece.
 PLAIN LAWS: what an expression's value is, is a value.
 PLAIN LAWS: sums, differences and products of 64 bits.
 THE WALKS: num.size, num.Do, num.Neg.
 THE WALKS: val.split, val.Parts, val.Get.
 THE WALKS: truth.check, truth.atoms; slices.Index and Contains of strings, in lists.
 SORTED BY A FUNCTION: a row of a call's own that slices.SortFunc has sorted.
 The library's contracts at this program (written by the kit's programs).
-/
import Derived.Test.YtpheiojmcafolaaGreatDoorSy09
import Derived.Maps.AppendAt
import Derived.Test.YtpheiojmcafolaaGreatDoorSy02
import Derived.Test.YtpheiojmcafolaaGreatDoorSy08
import Derived.Test.YtpheiojmcafolaaGreatDoorSy01
import Derived.Sort.OwnSorted
import Derived.Shelf.SlSortCmp.Whole1
import Derived.Shelf.SlSortCmp.NoneTotal
import Derived.Shelf.Strings.Builder1
import Derived.Shelf.Strings.Builder2
import Derived.Shelf.Small.Bits
import Derived.Shelf.Small.Strs
import Derived.Shelf.Small.Wraps
import Derived.Shelf.Strings.BuilderF
import Derived.Shelf.Strings.BuilderK
import Derived.Shelf.Utf8.RuneCount
import Derived.Shelf.Strings.Builder2Cap
import Derived.Shelf.Strconv.Itoa0
import Derived.Shelf.Strings.Search1
import Derived.Shelf.Strings.Search2
import Derived.Shelf.Strings.Search3
import Derived.Shelf.Strings.Count
import Derived.Shelf.LaysM
import Derived.Shelf.Strings.Shaped
import Derived.Shelf.Sort.Plain
import Derived.Shelf.Strings.Prefix
import Derived.Shelf.Strings.Split
import Derived.Shelf.Strings.RuneCount
import Derived.Shelf.Bits.Mul64
import Derived.Shelf.Slices.Turned
import Derived.Ground.Names2Prog
import Derived.Shelf.Slices.SearchI
import Derived.Shelf.Slices.In.SortNone
import Derived.Shelf.Spec.SlicesGrow
import Derived.Ground.SlsfProg
import Derived.Test.YtpheiojmcafolaaGreatDoorProg
namespace Go.Proofs.YtpheiojmcafolaaGreatDoor
open Go.RowKit Go.Sort
structure NsOff (w : World) (q : Option Nat) (x : NsM) : Prop where
 off : NdOff (fun b => q = some b) w w.heap.size x.A x.e
 le : x.e.length ≤ x.c
 max : x.c ≤ 9223372036854775807
theorem NsOff.good {w : World} {q : Option Nat} {x : NsM} (h : NsOff w q x) : NsGood w w.heap.size x := ⟨h.off.sl, h.le, h.max⟩
theorem NsOff.grown {w w' : World} {q q' : Option Nat} {x : NsM} (h : NsOff w q x) (hg : w.grownBy w' q) (hq : q' = q ∨ q' = some w.heap.size) : NsOff w' q' x :=
 ⟨fun hne => by
  obtain ⟨b, o, e, h1, h2, h3⟩ := h.off hne;have h2' : ¬ q = some b := h2;have hk : ∀ i, w'.cell? ⟨b, i, none⟩ = w.cell? ⟨b, i, none⟩ := fun i => World.cell?_of_block (w := w) (a := ⟨b, i, none⟩) (hg.block b h1 (fun e => h2' e.symm));refine ⟨b, o, e, Nat.lt_of_lt_of_le h1 hg.size, ?_, fun i y hy => ?_⟩
  · show ¬ q' = some b;rcases hq with rfl | rfl
    · exact h2'
    · intro hh; injection hh with hh; omega
  · obtain ⟨q0, q1, q2, q3⟩ := h3 i y hy;exact ⟨(hk _).trans q0, (hk _).trans q1, (hk _).trans q2, (hk _).trans q3⟩, h.le, h.max⟩
theorem NsOff.later {w w' : World} {q : Option Nat} {x : NsM} (h : NsOff w q x) (hb : RowKit.Below w.heap.size w w') : NsOff w' q x :=
 ⟨h.off.keep (fun _ hp _ => hb.cell hp) hb.size, h.le, h.max⟩
theorem NsGood.away {w : World} {B : Nat} {q : Option Nat} {x : NsM} (h : NsGood w B x) (hB : B ≤ w.heap.size) (hq : ∀ b, q = some b → B ≤ b) : NsOff w q x :=
 ⟨h.sl.off hq hB, h.le, h.max⟩
theorem NsGood.fresh {w : World} {B : Nat} {q : Option Nat} {x : NsM} (h : NsGood w w.heap.size x) (hn : ∀ b o, x.A = some ⟨b, o, none⟩ → B ≤ b) (hq : ∀ b, q = some b → b < B) : NsOff w q x :=
 ⟨fun hne => by
  obtain ⟨b, o, e, h1, h3⟩ := h.sl hne;exact ⟨b, o, e, h1, fun hh => by have := hq b hh; have := hn b o e; omega, h3⟩, h.le, h.max⟩
theorem own_form_new {w : World} {base : Nat} {e : TypeId} {v : Value} {n : Nat} {xs : List Nd} (h : w.ownsRow base e 4 v n (flat xs)) :
 ∃ A c, v = .slice A n c ∧ n ≤ c ∧ c ≤ 9223372036854775807 ∧ NdSl w w.heap.size A xs ∧ ∀ b o, A = some ⟨b, o, none⟩ → base ≤ b := by
 obtain ⟨A, c, hv, hc, hm, hs⟩ := own_form (xs := xs) (ys := []) (by rw [show flat ([] : List Nd) = [] from rfl, List.append_nil]; exact h);rw [List.append_nil] at hs;refine ⟨A, c, hv, hc, hm, hs, fun b o hA => ?_⟩;subst hA;rcases h.2 with ⟨h1, _⟩ | ⟨g, cap, cur, h1, hb, _⟩
 · rw [hv] at h1; cases h1
 · rw [hv] at h1; injection h1 with h1; injection h1 with h1; injection h1 with h1; omega
def NdsNew (w : World) (r : Ending) (w' : World) (xs : List Nd) : Prop :=
 ∃ A c, r = .returned (.slice A xs.length c) ∧ xs.length ≤ c ∧ c ≤ 9223372036854775807 ∧ NdSl w' w'.heap.size A xs ∧ RowKit.Below w.heap.size w w' ∧ ∀ b o, A = some ⟨b, o, none⟩ → w.heap.size ≤ b
theorem ns_info : (Tryz.prog.info? 22).map (fun i => (i.zero, i.size, i.bytes)) = some (some (.slice none 0 0), 1, 24) := by kernel_rfl
theorem own_lt {w : World} {base : Nat} {e : TypeId} {k : Nat} {v : Value} {n : Nat} {xs : List Value} (h : w.ownsRow base e k v n xs) {b : Nat} (hb : v.ownBlock = some b) : base ≤ b ∧ b < w.heap.size := by
 rcases h.2 with ⟨h1, _⟩ | ⟨g, cap, cur, h1, hbg, hg, _⟩
 · rw [h1] at hb; cases hb
 · rw [h1] at hb;injection hb with hb
   have h2 : g = b := hb;subst h2;exact ⟨hbg, (Array.getElem?_eq_some_iff.1 hg).1⟩
theorem collect {wr wa w6 : World} {v v' : Value} {ps : List NsM} {x : NsM} (ha : RowKit.Below wr.heap.size wr wa) (hN : ∀ y ∈ ps, NsOff wr v.ownBlock y) (hx : NsOff wa v.ownBlock x) (hg : wa.grownBy w6 v.ownBlock)
 (hloc : v'.ownBlock = v.ownBlock ∨ v'.ownBlock = some wa.heap.size) : ∀ y ∈ ps ++ [x], NsOff w6 v'.ownBlock y := by
 intro y hy;rcases List.mem_append.1 hy with hy | hy
 · exact ((hN y hy).later ha).grown hg hloc
 · simp at hy; subst hy; exact hx.grown hg hloc
theorem ns_snoc (ps : List NsM) (x : NsM) : flatG NsM.cells (ps ++ [x]) = flatG NsM.cells ps ++ [.slice x.A x.e.length x.c] := by rw [flatG_append, flatG_one]; rfl
end Go.Proofs.YtpheiojmcafolaaGreatDoor
namespace Go.Proofs.YtpheiojmcafolaaGreatDoor
open Go.RowKit
def Mq (vals : Bool) (xs : List Nd) : Prop := (vals = false ∧ ∃ b, Ex (.one b) xs) ∨ (vals = true ∧ (Vx xs ∨ Fx xs))
theorem fx_ex' {p : List Nd} (h : Fx p) : Ex (.one true) p := by
 obtain ⟨f, v, rfl, a, b, c⟩ := h;exact fx_ex a b (vx_ex c)
theorem Mq.ex {vals : Bool} {xs : List Nd} (h : Mq vals xs) : ∃ b, Ex (.one b) xs := by
 rcases h with ⟨_, h⟩ | ⟨_, h | h⟩
 · exact h
 · exact ⟨_, vx_ex h⟩
 · exact ⟨_, fx_ex' h⟩
structure Cut (vals : Bool) (x : Nd) (ps : List (List Nd)) : Prop where
 mq : ∀ p ∈ ps, Mq vals p
 set : vals = true → x.op = 5 → ∀ p ∈ ps, Vx p
theorem Mq.cut {vals : Bool} {xs : List Nd} (h : Mq vals xs) : ∃ x ps, xs = x :: ps.flatten ∧ Cut vals x ps := by
 rcases h with ⟨rfl, b, h⟩ | ⟨rfl, h | h⟩
 · cases h with
   | one x body _ hs h7 hbd =>
    obtain ⟨ps, hc, rfl, hK⟩ := ex_pieces hbd;exact ⟨x, ps, rfl, fun p hp => .inl ⟨rfl, _, exk_all hK p hp⟩, by simp⟩
 · cases h with
   | leaf n hs h5 h6 h7 => exact ⟨n, [], by simp, by simp, by simp⟩
   | set n ps hs h5 hn hv hc => exact ⟨n, ps, rfl, fun p hp => .inr ⟨rfl, .inl (hv p hp)⟩, fun _ _ => hv⟩
   | rcd n ps hs h6 hn h1 h2 h3 hr =>
    refine ⟨n, ps, rfl, fun p hp => .inr ⟨rfl, .inr ?_⟩, fun _ h5 => by omega⟩;obtain ⟨f, v, rfl⟩ := h1 p hp;exact ⟨f, v, rfl, (h2 f v hp).1, (h2 f v hp).2, h3 f v hp⟩
 · obtain ⟨f, v, rfl, h7, hs, hv⟩ := h;refine ⟨f, [v], by simp, ?_, fun _ h5 => by omega⟩;intro p hp;simp at hp;subst hp;exact .inr ⟨rfl, .inl hv⟩
theorem Mq.mov {m : Mv} (hm : mvErr m = 0) {vals : Bool} {xs : List Nd} (h : Mq vals xs) (hl : xs.length ≤ 200) {k : Nat} (hk : xs.length ≤ k) {ys : List Nd} (hy : movGo m vals k xs = some ys) : (∃ b, Ex (.one b) ys) ∧ ys.length ≤ xs.length ∧ (vals = true → Vx xs → Vx ys) := by
 rcases h with ⟨rfl, b, h⟩ | ⟨rfl, h | h⟩
 · rcases ex_mov hm xs.length xs b (Nat.le_refl _) h k hk with h' | ⟨zs, h1, h2, h3⟩
   · rw [h'] at hy; cases hy
   · rw [h1] at hy; injection hy with hy; subst hy
     exact ⟨⟨b, h2⟩, h3, by simp⟩
 · rcases vx_mov hm h hl k hk with h' | ⟨zs, h1, h2, h3⟩
   · rw [h'] at hy; cases hy
   · rw [h1] at hy; injection hy with hy; subst hy
     exact ⟨⟨_, vx_ex h2⟩, h3, fun _ _ => h2⟩
 · obtain ⟨f, v, rfl, h7, hs, hv⟩ := h;rw [List.length_cons] at hl hk;match k, hk with
   | k + 1, hk =>
    rw [fld_step m true k (vx_ex hv) h7] at hy;rcases vx_mov hm hv (by omega) k (by omega) with h' | ⟨zs, h1, h2, h3⟩
    · rw [h'] at hy; cases hy
    · rw [h1] at hy;injection hy with hy
      subst hy;refine ⟨⟨_, fx_ex' ⟨ren m f, zs, rfl, by rw [(ren_op m f).1]; exact h7, ren_shapedV hm hs, h2⟩⟩, by simpa using h3, fun _ hx => ?_⟩;obtain ⟨x, r, e, _, hn7⟩ := hx.ne;injection e with e1 e2
      subst e1;exact absurd h7 hn7
theorem ex_count {t : BTag} {xs : List Nd} (h : Ex t xs) : (match t with | .one _ => 0 | .more c _ _ => c) ≤ xs.length := by
 induction h with
 | one n body fld hs h7 hb ih => exact Nat.zero_le _
 | nil r l => exact Nat.le_refl _
 | cons c r l m xs ys hl hx hy ih1 ih2 =>
  simp only at ih2 ⊢;simp; omega
theorem ex_par {t : BTag} {xs : List Nd} (h : Ex t xs) : ∀ x ∈ xs, 0 ≤ ndParts x ∧ ndParts x ≤ xs.length := by
 induction h with
 | one n body fld hs h7 hb ih =>
  intro x hx;rcases List.mem_cons.1 hx with rfl | hx
  · have h1 := shapedT_parts x hs;have h2 := ex_count hb;simp only at h2;simp only [List.length_cons];omega
  · have := ih x hx;simp only [List.length_cons];omega
 | nil r l => simp
 | cons c r l m xs ys hl hx hy ih1 ih2 =>
  intro x hx';rcases List.mem_append.1 hx' with h | h
  · have := ih1 x h; rw [List.length_append]; omega
  · have := ih2 x h; rw [List.length_append]; omega
theorem flat_split {ps : List (List Nd)} {j : Nat} {p : List Nd} (h : ps[j]? = some p) : ps.flatten = (ps.take j).flatten ++ (p ++ (ps.drop (j + 1)).flatten) := by
 have hj := (List.getElem?_eq_some_iff.1 h).1;have h2 : ps.drop j = p :: ps.drop (j + 1) := by
  rw [List.drop_eq_getElem_cons hj];rw [List.getElem?_eq_getElem hj] at h;injection h with h
  rw [h]
 conv => lhs; rw [← List.take_append_drop j ps, h2]
 simp
theorem flat_step {ps : List (List Nd)} {j : Nat} {p : List Nd} (h : ps[j]? = some p) : (ps.take (j + 1)).flatten.length = (ps.take j).flatten.length + p.length := by
 rw [List.take_add_one, h]; simp
theorem flat_take_le (ps : List (List Nd)) (j : Nat) : (ps.take j).flatten.length ≤ ps.flatten.length := by
 conv => rhs; rw [← List.take_append_drop j ps, List.flatten_append, List.length_append]
 omega
theorem cut_piece {x : Nd} {ps : List (List Nd)} {j : Nat} {p : List Nd} (h : ps[j]? = some p) : piece (x :: ps.flatten) (1 + (ps.take j).flatten.length) (1 + (ps.take j).flatten.length + p.length) = p := by
 have := piece_mid (x :: (ps.take j).flatten) p (ps.drop (j + 1)).flatten;rw [flat_split h, show x :: ((ps.take j).flatten ++ (p ++ (ps.drop (j + 1)).flatten)) = x :: (ps.take j).flatten ++ p ++ (ps.drop (j + 1)).flatten from by simp];rw [List.length_cons, show (ps.take j).flatten.length + 1 = 1 + (ps.take j).flatten.length from by omega] at this;exact this
theorem cut_skip {x : Nd} {ps : List (List Nd)} {j : Nat} {p : List Nd} (h : ps[j]? = some p) (hp : ∃ b, Ex (.one b) p) : skP ((x :: ps.flatten).drop (1 + (ps.take j).flatten.length)) 1 (1 + (ps.take j).flatten.length) = some (1 + (ps.take j).flatten.length + p.length) := by
 obtain ⟨b, hb⟩ := hp;have := skP_at hb (ps.drop (j + 1)).flatten (1 + (ps.take j).flatten.length);rw [flat_split h, show x :: ((ps.take j).flatten ++ (p ++ (ps.drop (j + 1)).flatten)) = (x :: (ps.take j).flatten) ++ (p ++ (ps.drop (j + 1)).flatten) from by simp];rw [show 1 + (ps.take j).flatten.length = (x :: (ps.take j).flatten).length from by rw [List.length_cons]; omega, List.drop_left];rw [show 1 + (ps.take j).flatten.length = (x :: (ps.take j).flatten).length from by rw [List.length_cons]; omega] at this;exact this
theorem allSome_snoc {α β : Type} (f : α → Option β) : ∀ (ps : List α) (qs : List β) (j : Nat) (p : α) (q : β), allSome ((ps.take j).map f) = some qs → ps[j]? = some p → f p = some q → allSome ((ps.take (j + 1)).map f) = some (qs ++ [q])
 | [], qs, j, p, q, _, hp, _ => by simp at hp
 | y :: ps, qs, 0, p, q, h, hp, hq => by
  simp at hp;subst hp;have h' : some ([] : List β) = some qs := h;injection h' with h'
  subst h';simp [allSome, hq]
 | y :: ps, qs, j + 1, p, q, h, hp, hq => by
  rw [List.take_succ_cons, List.map_cons] at h ⊢;cases hy : f y with
  | none => rw [hy] at h; cases h
  | some z =>
   rw [hy, allSome] at h;rw [allSome];cases hr : allSome ((ps.take j).map f) with
   | none => rw [hr] at h; cases h
   | some r =>
    rw [hr] at h;injection h with h
    subst h;rw [allSome_snoc f ps r j p q hr (by simpa using hp) hq];rfl
theorem allSome_none {α β : Type} (f : α → Option β) : ∀ (ps : List α) (p : α), p ∈ ps → f p = none → allSome (ps.map f) = none
 | y :: ps, p, hp, hn => by
  rw [List.map_cons];cases hy : f y with
  | none => rfl
  | some z =>
   rw [allSome];rcases List.mem_cons.1 hp with rfl | hp
   · rw [hn] at hy; cases hy
   · rw [allSome_none f ps p hp hn]
theorem nss_map' {ms : List NsM} {qs : List (List Nd)} (h : ms.map NsM.e = qs) : catN ms = qs.flatten := by rw [← h]; simp [catN, List.flatMap]
end Go.Proofs.YtpheiojmcafolaaGreatDoor
namespace Go.Proofs.YtpheiojmcafolaaGreatDoor
def nodeR (es : List En) (q : Rq) (x : Nd) (ps : List (List Nd)) (f : List Nd → Rs (List Nd)) : Rs (List Nd) :=
 if x.op = 1 ∨ x.op = 2 ∨ x.op = 3 ∨ x.op = 4 then .ok [x]
 else if x.op = 8 then namedR q x.s.toList
 else match x.op == 5, x.op == 6, ps with
  | true, _, ps => (allR (ps.map f)).bind setR
  | _, true, ps => (allR (ps.map fun p => f p.tail)).bind fun vs => recR ((ps.map sH).zip vs)
  | _, _, [a] => (f a).bind fun v => singleR es x v
  | _, _, [a, b] => if x.op = 11 ∨ x.op = 12 then eitherR x.op (f a) (f b) else (f a).bind fun u => (f b).bind fun v => doubleR es x.op u v
  | _, _, [c, a, b] => choiceR (f c) (f a) (f b)
  | _, _, _ => .bad 0
theorem evE_succ (es : List En) (q : Rq) (k : Nat) (x : Nd) (body : List Nd) : evE es q (k + 1) (x :: body) = nodeR es q x (kidsGo body.length body) (evE es q k) := rfl
theorem evE_node (es : List En) (q : Rq) (k : Nat) (x : Nd) {ps : List (List Nd)} (h : ∀ p ∈ ps, ∃ b, Ex (.one b) p) : evE es q (k + 1) (x :: ps.flatten) = nodeR es q x ps (evE es q k) := by
 rw [evE_succ, kids_any ps h _ (Nat.le_refl _)]
theorem nodeR_congr (es : List En) (q : Rq) (x : Nd) (ps : List (List Nd)) {f g : List Nd → Rs (List Nd)} (h : ¬ x.op = 6 → ∀ p ∈ ps, f p = g p) (h6 : x.op = 6 → ∀ p ∈ ps, f p.tail = g p.tail) : nodeR es q x ps f = nodeR es q x ps g := by
 unfold nodeR;by_cases e6 : x.op = 6
 · have e5 : (x.op == 5) = false := by simp [e6]
   have e6' : (x.op == 6) = true := by simp [e6]
   rw [e5, e6', if_neg (by omega), if_neg (by omega), if_neg (by omega), if_neg (by omega)];simp only;rw [List.map_congr_left fun p hp => h6 e6 p hp]
 · have h' := h e6;have e6' : (x.op == 6) = false := by simp [e6]
   rw [e6'];split
   · rfl
   · split
     · rfl
     · cases e5 : (x.op == 5) with
       | true => simp only; rw [List.map_congr_left h']
       | false =>
        match ps, h' with
        | [], _ => rfl
        | [a], h' => simp only; rw [h' a (by simp)]
        | [a, b], h' => simp only; rw [h' a (by simp), h' b (by simp)]
        | [c, a, b], h' => simp only; rw [h' c (by simp), h' a (by simp), h' b (by simp)]
        | _ :: _ :: _ :: _ :: _, _ => rfl
theorem ex_cutE {b : Bool} {xs : List Nd} (h : Ex (.one b) xs) : ∃ (n : Nd) (ps : List (List Nd)), xs = n :: ps.flatten ∧ (n.op == 7) = b ∧ shapedT n = true ∧ ps.length = (ndParts n).toNat ∧ ∀ p ∈ ps, Ex (.one (n.op == 6)) p := by
 cases h with
 | one n body _ hs h7 hb =>
  obtain ⟨ps, h1, h2, h3⟩ := ex_pieces hb;exact ⟨n, ps, by rw [h2], h7, hs, h1, exk_all h3⟩
theorem part_le {ps : List (List Nd)} {p : List Nd} (h : p ∈ ps) : p.length ≤ ps.flatten.length := by
 obtain ⟨a, b, rfl⟩ := List.append_of_mem h;simp; omega
theorem fld_tail {p : List Nd} (h : Ex (.one true) p) : Ex (.one false) p.tail ∧ p.tail.length < p.length := by
 cases h with
 | one f body _ hs h7 hb =>
  have h7' : f.op = 7 := by simpa using h7
  have hp : ndParts f = 1 := by simp [ndParts, h7']
  rw [hp, show (f.op == 6) = false from by simp [h7']] at hb;obtain ⟨ps, h1, h2, h3⟩ := ex_pieces hb;match ps, h1, h3 with
  | [v], _, h3 => exact ⟨by rw [List.tail_cons, h2]; simpa using h3.1, by simp⟩
theorem evE_fuel (es : List En) (q : Rq) : ∀ (N : Nat) (xs : List Nd), xs.length ≤ N → Ex (.one false) xs → ∀ k j, xs.length ≤ k → xs.length ≤ j → evE es q k xs = evE es q j xs
 | 0, xs, hN, h, _, _, _, _ => by
  obtain ⟨x, y, e, _⟩ := ex_ne h;rw [e] at hN; simp at hN
 | N + 1, xs, hN, h, k, j, hk, hj => by
  obtain ⟨n, ps, rfl, h7, hs, hc, hex⟩ := ex_cutE h;rw [List.length_cons] at hN hk hj;obtain ⟨k, rfl⟩ : ∃ k', k = k' + 1 := ⟨k - 1, by omega⟩;obtain ⟨j, rfl⟩ : ∃ j', j = j' + 1 := ⟨j - 1, by omega⟩;rw [evE_node es q k n fun p hp => ⟨_, hex p hp⟩, evE_node es q j n fun p hp => ⟨_, hex p hp⟩];refine nodeR_congr es q n ps (fun h6 p hp => ?_) (fun h6 p hp => ?_)
  · have := hex p hp;rw [show (n.op == 6) = false from by simp [h6]] at this;have := part_le hp;exact evE_fuel es q N p (by omega) (by assumption) k j (by omega) (by omega)
  · have h1 := hex p hp;rw [show (n.op == 6) = true from by simp [h6]] at h1;obtain ⟨h2, h3⟩ := fld_tail h1;have := part_le hp;exact evE_fuel es q N p.tail (by omega) h2 k j (by omega) (by omega)
def evX (es : List En) (q : Rq) (xs : List Nd) : Rs (List Nd) := evE es q xs.length xs
theorem evX_node (es : List En) (q : Rq) {x : Nd} {ps : List (List Nd)} (h : ∀ p ∈ ps, Ex (.one (x.op == 6)) p) : evX es q (x :: ps.flatten) = nodeR es q x ps (evX es q) := by
 unfold evX;rw [List.length_cons, evE_node es q _ x fun p hp => ⟨_, h p hp⟩];refine nodeR_congr es q x ps (fun h6 p hp => ?_) (fun h6 p hp => ?_)
 · have h1 := h p hp;rw [show (x.op == 6) = false from by simp [h6]] at h1;exact evE_fuel es q _ p (Nat.le_refl _) h1 _ _ (part_le hp) (Nat.le_refl _)
 · have h1 := h p hp;rw [show (x.op == 6) = true from by simp [h6]] at h1;obtain ⟨h2, h3⟩ := fld_tail h1;exact evE_fuel es q _ p.tail (Nat.le_refl _) h2 _ _ (by have := part_le hp; omega) (Nat.le_refl _)
theorem evX_leaf (es : List En) (q : Rq) {x : Nd} (h : x.op = 1 ∨ x.op = 2 ∨ x.op = 3 ∨ x.op = 4) : evX es q [x] = .ok [x] := by
 have := evX_node es q (x := x) (ps := []) (by simp);rw [List.flatten_nil] at this;rw [this];unfold nodeR;rw [if_pos h]
theorem evX_var (es : List En) (q : Rq) {x : Nd} (h : x.op = 8) : evX es q [x] = namedR q x.s.toList := by
 have := evX_node es q (x := x) (ps := []) (by simp);rw [List.flatten_nil] at this;rw [this];unfold nodeR;rw [if_neg (by omega), if_pos h]
theorem evX_one (es : List En) (q : Rq) {x : Nd} {a : List Nd} (h : x.op = 9 ∨ x.op = 10 ∨ x.op = 21 ∨ x.op = 22 ∨ x.op = 23 ∨ x.op = 24) (ha : Ex (.one false) a) : evX es q (x :: a) = (evX es q a).bind fun v => singleR es x v := by
 have e6 : (x.op == 6) = false := by simp; omega
 have e5 : (x.op == 5) = false := by simp; omega
 have := evX_node es q (x := x) (ps := [a]) (by intro p hp; simp at hp; subst hp; rw [e6]; exact ha);rw [show [a].flatten = a by simp] at this;rw [this];unfold nodeR;rw [if_neg (by omega), if_neg (by omega), e5, e6]
theorem evX_and (es : List En) (q : Rq) {x : Nd} {a b : List Nd} (h : x.op = 11 ∨ x.op = 12) (ha : Ex (.one false) a) (hb : Ex (.one false) b) : evX es q (x :: (a ++ b)) = eitherR x.op (evX es q a) (evX es q b) := by
 have e6 : (x.op == 6) = false := by simp; omega
 have e5 : (x.op == 5) = false := by simp; omega
 have := evX_node es q (x := x) (ps := [a, b]) (by intro p hp; simp at hp; rw [e6]; rcases hp with rfl | rfl <;> assumption);rw [show [a, b].flatten = a ++ b by simp] at this;rw [this];unfold nodeR;rw [if_neg (by omega), if_neg (by omega), e5, e6];simp only;rw [if_pos h]
theorem evX_two (es : List En) (q : Rq) {x : Nd} {a b : List Nd} (h : x.op = 14 ∨ x.op = 15 ∨ x.op = 16 ∨ x.op = 17 ∨ x.op = 18 ∨ x.op = 19 ∨ x.op = 20 ∨ x.op = 25 ∨ x.op = 26 ∨ x.op = 27) (ha : Ex (.one false) a) (hb : Ex (.one false) b) :
 evX es q (x :: (a ++ b)) = (evX es q a).bind fun u => (evX es q b).bind fun v => doubleR es x.op u v := by
 have e6 : (x.op == 6) = false := by simp; omega
 have e5 : (x.op == 5) = false := by simp; omega
 have := evX_node es q (x := x) (ps := [a, b]) (by intro p hp; simp at hp; rw [e6]; rcases hp with rfl | rfl <;> assumption);rw [show [a, b].flatten = a ++ b by simp] at this;rw [this];unfold nodeR;rw [if_neg (by omega), if_neg (by omega), e5, e6];simp only;rw [if_neg (by omega)]
theorem evX_if (es : List En) (q : Rq) {x : Nd} {c a b : List Nd} (h : x.op = 13) (hc : Ex (.one false) c) (ha : Ex (.one false) a) (hb : Ex (.one false) b) : evX es q (x :: (c ++ (a ++ b))) = choiceR (evX es q c) (evX es q a) (evX es q b) := by
 have e6 : (x.op == 6) = false := by simp; omega
 have e5 : (x.op == 5) = false := by simp; omega
 have := evX_node es q (x := x) (ps := [c, a, b]) (by intro p hp; simp at hp; rw [e6]; rcases hp with rfl | rfl | rfl <;> assumption);rw [show [c, a, b].flatten = c ++ (a ++ b) by simp] at this;rw [this];unfold nodeR;rw [if_neg (by omega), if_neg (by omega), e5, e6]
end Go.Proofs.YtpheiojmcafolaaGreatDoor
namespace Go.Proofs.YtpheiojmcafolaaGreatDoor
theorem valsErr_all : ∀ {vs : List (List Nd)}, valsErr vs = 0 → ∀ v ∈ vs, valErr v = 0
 | v :: r, h, u, hu => by
  rw [valsErr] at h;split at h
  · rename_i h1; exact absurd h h1
  · rename_i h1;rcases List.mem_cons.1 hu with rfl | hu
    · exact Classical.not_not.1 h1
    · exact valsErr_all h u hu
theorem setR_vx {vs : List (List Nd)} {v : List Nd} (h : setR vs = .ok v) : valErr v = 0 := by
 unfold setR at h;split at h
 · cases h
 · rename_i hk;injection h with h
   subst h;unfold setOfP at hk ⊢;split at hk
   · rename_i h1; exact absurd h1 hk
   · rename_i h1;rw [if_neg h1];split at hk
     · exact absurd (by decide) hk
     · rename_i h2;rw [if_neg h2];have hv : ∀ p ∈ vs, Vx p := fun p hp => ((val_iff p).1 (valsErr_all (Classical.not_not.1 h1) p hp)).2;refine (val_iff _).2 ⟨by simp only; omega, ?_⟩;exact .set _ (setParts vs) (by simp [shapedV, ByteArray.toList_mk]) rfl rfl (fun p hp => hv p (mem_setParts hp)) (chain_of (setParts_pw vs) (by simp))
theorem recGo_all : ∀ {fs : List (ByteArray × List Nd)} {met : List (List UInt8)}, recGo fs met = 0 → (∀ f ∈ fs, nameErr f.1.toList = 0 ∧ f.1.toList ∉ met ∧ valErr f.2 = 0) ∧ (fs.map fun f => f.1.toList).Nodup
 | [], met, _ => by simp
 | (s, v) :: r, met, h => by
  rw [recGo] at h;split at h
  · rename_i h1; exact absurd h h1
  · rename_i h1;split at h
    · exact absurd h (by decide)
    · rename_i h2;split at h
      · rename_i h3; exact absurd h h3
      · rename_i h3;obtain ⟨i1, i2⟩ := recGo_all h;refine ⟨fun f hf => ?_, ?_⟩
        · rcases List.mem_cons.1 hf with rfl | hf
          · exact ⟨Classical.not_not.1 h1, h2, Classical.not_not.1 h3⟩
          · have := i1 f hf;exact ⟨this.1, fun hm => this.2.1 (by simp [hm]), this.2.2⟩
        · rw [List.map_cons, List.nodup_cons];refine ⟨fun hm => ?_, i2⟩;obtain ⟨f, hf, e⟩ := List.mem_map.1 hm;exact (i1 f hf).2.1 (by simp [e])
theorem recR_vx {fs : List (ByteArray × List Nd)} {v : List Nd} (h : recR fs = .ok v) : valErr v = 0 := by
 unfold recR at h;split at h
 · cases h
 · rename_i h1;split at h
   · cases h
   · rename_i h2;injection h with h
     subst h;obtain ⟨i1, i2⟩ := recGo_all (Classical.not_not.1 h1);have hF : ∀ p ∈ fs.map (fun f => (⟨7, 0, f.1, ⟨#[]⟩⟩ : Nd) :: f.2), Fx p := fun p hp => by
      obtain ⟨f, hf, rfl⟩ := List.mem_map.1 hp;have := i1 f hf;exact ⟨_, _, rfl, rfl, by simp [shapedV, this.1, ByteArray.toList_mk], ((val_iff _).1 this.2.2).2⟩
     have hE : ∀ p ∈ fs.map (fun f => (⟨7, 0, f.1, ⟨#[]⟩⟩ : Nd) :: f.2), Ex (.one true) p := fun p hp => by
      obtain ⟨f, u, rfl, a, b, c⟩ := hF p hp;exact fx_ex a b (vx_ex c)
     have hnd : (namesOf (fs.map fun f => (⟨7, 0, f.1, ⟨#[]⟩⟩ : Nd) :: f.2)).Nodup := by
      have : namesOf (fs.map fun f => (⟨7, 0, f.1, ⟨#[]⟩⟩ : Nd) :: f.2) = fs.map fun f => f.1.toList := (by unfold namesOf; rw [List.map_map]; rfl);rw [this]; exact i2
     refine (val_iff _).2 ⟨by omega, ?_⟩;unfold recNodes;exact .rcd' (by simp [shapedV, ByteArray.toList_mk]) rfl (by rw [(sortN_perm _).length_eq, List.length_map]) (fun p hp => hF p ((sortN_perm _).mem_iff.1 hp)) (exk_rise (nodup_rise hE hnd))
theorem one_vx {x : Nd} (h : shapedV x = true) (h5 : ¬ x.op = 5) (h6 : ¬ x.op = 6) (h7 : ¬ x.op = 7) : valErr [x] = 0 := (val_iff _).2 ⟨by simp, .leaf x h h5 h6 h7⟩
theorem bN_vx (b : Bool) : valErr [bN b] = 0 := one_vx (by cases b <;> simp [bN, shapedV, ByteArray.toList_mk]) (by simp [bN]) (by simp [bN]) (by simp [bN])
theorem nN_vx (n : Int) : valErr [nN n] = 0 := one_vx (by simp [nN, shapedV, ByteArray.toList_mk]) (by simp [nN]) (by simp [nN]) (by simp [nN])
theorem eN_vx {u : Ud} (h : udErr u = 0) : valErr [eN u] = 0 := by
 have h' : nameErr u.ty.toList = 0 ∧ textErr u.id.toList = 0 := by
  unfold udErr at h;split at h
  · exact ⟨by assumption, h⟩
  · exact absurd h (by assumption)
 exact one_vx (by simp [eN, shapedV, h'.1, h'.2]) (by simp [eN]) (by simp [eN]) (by simp [eN])
theorem len_of_parts {v p : List Nd} (h : valErr v = 0) (hp : p ∈ partsV v) : p.length ≤ 200 := by
 have hl := ((val_iff v).1 h).1;have hv := ((val_iff v).1 h).2;cases hv with
 | leaf n hs h5' h6' h7 => simp [partsV, kidsGo] at hp
 | set n ps hs h5' hn hv hc =>
  have hk : partsV (n :: ps.flatten) = ps := kids_any ps (fun p hp' => ⟨false, vx_ex (hv p hp')⟩) _ (Nat.le_refl _);rw [hk] at hp;have := part_le hp;rw [List.length_cons] at hl; omega
 | rcd n ps hs h6' hn h1 h2 h3 hc =>
  have hk : partsV (n :: ps.flatten) = ps := kids_any ps (fun p hp => by
   obtain ⟨f, u, rfl⟩ := h1 p hp;exact ⟨true, fx_ex (h2 f u hp).1 (h2 f u hp).2 (vx_ex (h3 f u hp))⟩) _ (Nat.le_refl _)
  rw [hk] at hp;have := part_le hp;rw [List.length_cons] at hl; omega
theorem getR_vx {v w : List Nd} {s : ByteArray} (h : getR v s = .ok w) : valErr w = 0 := by
 unfold getR at h;split at h
 · cases h
 · rename_i h0;have h0' : valErr v = 0 := Classical.not_not.1 h0;split at h
   · rename_i h6;split at h
     · rename_i p hp;injection h with h
       subst h;have hm := List.mem_of_find?_eq_some hp;have hl := len_of_parts h0' hm;obtain ⟨f, u, rfl, _, hu⟩ := vx_rec_parts h0' h6 p hm;rw [List.length_cons] at hl;exact (val_iff _).2 ⟨by rw [List.tail_cons]; omega, hu⟩
     · cases h
   · cases h
theorem single_vx {es : List En} {x : Nd} {v w : List Nd} (h : singleR es x v = .ok w) : valErr w = 0 := by
 unfold singleR at h;split at h
 · obtain ⟨u, _, h2⟩ := bind_ok h; injection h2 with h2; subst h2; exact bN_vx _
 · split at h
   · obtain ⟨u, _, h2⟩ := bind_ok h; obtain ⟨n, _, h3⟩ := bind_ok h2; injection h3 with h3; subst h3; exact nN_vx _
   · split at h
     · obtain ⟨u, _, h2⟩ := bind_ok h; obtain ⟨n, _, h3⟩ := bind_ok h2; injection h3 with h3; subst h3; exact bN_vx _
     · split at h
       · obtain ⟨u, _, h2⟩ := bind_ok h; injection h2 with h2; subst h2; exact bN_vx _
       · obtain ⟨r, h1, h2⟩ := bind_ok h;cases r with
         | none =>
          simp only at h2;split at h2
          · injection h2 with h2; subst h2; exact bN_vx _
          · cases h2
         | some r =>
          simp only at h2;split at h2
          · split at h2 <;> (injection h2 with h2; subst h2; exact bN_vx _)
          · exact getR_vx h2
theorem double_vx {es : List En} {op : Int} {a b w : List Nd} (h : doubleR es op a b = .ok w) : valErr w = 0 := by
 unfold doubleR at h;split at h
 · injection h with h; subst h; exact bN_vx _
 · split at h
   · obtain ⟨u, _, h2⟩ := bind_ok h; injection h2 with h2; subst h2; exact bN_vx _
   · split at h
     · obtain ⟨u, _, h2⟩ := bind_ok h; injection h2 with h2; subst h2; exact bN_vx _
     · split at h
       · obtain ⟨u, _, h2⟩ := bind_ok h; injection h2 with h2; subst h2; exact bN_vx _
       · split at h
         · obtain ⟨u, _, h2⟩ := bind_ok h; injection h2 with h2; subst h2; exact bN_vx _
         · obtain ⟨u, _, h2⟩ := bind_ok h;obtain ⟨u', _, h3⟩ := bind_ok h2;split at h3
           · injection h3 with h3; subst h3; exact bN_vx _
           · split at h3
             · injection h3 with h3; subst h3; exact bN_vx _
             · obtain ⟨n, _, h4⟩ := bind_ok h3; injection h4 with h4; subst h4; exact nN_vx _
theorem shapedT_V {x : Nd} (h : shapedT x = true) (ho : x.op = 1 ∨ x.op = 2 ∨ x.op = 3 ∨ x.op = 4) : valErr [x] = 0 := by
 unfold shapedT at h;rw [if_pos ho] at h;simpa using h
theorem evE_vx {es : List En} {q : Rq} (hq : rqErr q = 0) : ∀ (k : Nat) (xs : List Nd) {v : List Nd}, Ex (.one false) xs → evE es q k xs = .ok v → valErr v = 0
 | 0, xs, v, _, h => by cases h
 | k + 1, xs, v, hx, h => by
  obtain ⟨n, ps, rfl, h7, hs, hc, hex⟩ := ex_cutE hx;have ih := fun p v (hp : Ex (.one false) p) (h : evE es q k p = .ok v) => evE_vx hq k p hp h;rw [evE_node es q k n fun p hp => ⟨_, hex p hp⟩] at h;unfold nodeR at h;have hq' : udErr q.who = 0 ∧ udErr q.act = 0 ∧ udErr q.what = 0 ∧ valErr q.ctx = 0 := by
   unfold rqErr at hq;repeat' split at hq
   all_goals first
    | exact absurd hq (by assumption)
    | exact absurd hq (by decide)
    | exact ⟨Classical.not_not.1 (by assumption), Classical.not_not.1 (by assumption), Classical.not_not.1 (by assumption), Classical.not_not.1 (by assumption)⟩
  split at h
  · rename_i ho;injection h with h; subst h
    exact shapedT_V hs ho
  · split at h
    · unfold namedR at h;split at h
      · injection h with h; subst h; exact eN_vx hq'.1
      · split at h
        · injection h with h; subst h; exact eN_vx hq'.2.1
        · split at h
          · injection h with h; subst h; exact eN_vx hq'.2.2.1
          · split at h
            · injection h with h; subst h; exact hq'.2.2.2
            · cases h
    · by_cases e6 : n.op = 6
      · have e5 : (n.op == 5) = false := (by simp [e6]);have e6' : (n.op == 6) = true := (by simp [e6]);rw [e5, e6'] at h;simp only at h;obtain ⟨vs, h1, h2⟩ := bind_ok h;exact recR_vx h2
      · have e6' : (n.op == 6) = false := (by simp [e6]);rw [e6'] at h hex;cases e5 : (n.op == 5) with
        | true =>
         rw [e5] at h;simp only at h;obtain ⟨vs, h1, h2⟩ := bind_ok h;exact setR_vx h2
        | false =>
         rw [e5] at h;match ps, hex with
         | [], _ => simp only at h; cases h
         | [a], hex =>
          simp only at h;obtain ⟨u, h1, h2⟩ := bind_ok h;exact single_vx h2
         | [a, b], hex =>
          simp only at h;split at h
          · unfold eitherR at h;obtain ⟨u, h1, h2⟩ := bind_ok h;split at h2
            · injection h2 with h2; subst h2; exact ih a _ (hex a (by simp)) (must_ok h1).1
            · exact ih b v (hex b (by simp)) (must_ok h2).1
          · obtain ⟨u, h1, h2⟩ := bind_ok h;obtain ⟨u', h3, h4⟩ := bind_ok h2;exact double_vx h4
         | [c, a, b], hex =>
          simp only at h;unfold choiceR at h;obtain ⟨u, h1, h2⟩ := bind_ok h;split at h2
          · exact ih a v (hex a (by simp)) h2
          · exact ih b v (hex b (by simp)) h2
         | _ :: _ :: _ :: _ :: _, _ => simp only at h; cases h
end Go.Proofs.YtpheiojmcafolaaGreatDoor
namespace Go.Proofs.YtpheiojmcafolaaGreatDoor
open Go
def I64 (a : Int) : Prop := -9223372036854775808 ≤ a ∧ a ≤ 9223372036854775807
def addOver (a b c : Int) : Bool := (decide (a < 0) == decide (b < 0)) && (decide (c < 0) != decide (a < 0))
def subOver (a b c : Int) : Bool := (decide (a < 0) != decide (b < 0)) && (decide (c < 0) != decide (a < 0))
theorem add_over {a b : Int} (ha : I64 a) (hb : I64 b) : addOver a b (IntKind.i64.wrap (a + b)) = !inR (a + b) ∧ (inR (a + b) = true → IntKind.i64.wrap (a + b) = a + b) := by
 obtain ⟨a1, a2⟩ := ha;obtain ⟨b1, b2⟩ := hb;unfold addOver inR;rw [IntKind.wrap_i64];by_cases h1 : a < 0 <;> by_cases h2 : b < 0 <;> by_cases h3 : -9223372036854775808 ≤ a + b <;> by_cases h4 : a + b ≤ 9223372036854775807 <;> by_cases h5 : (a + b + 9223372036854775808) % 18446744073709551616 - 9223372036854775808 < 0 <;> simp [h1, h2, h3, h4, h5] <;> omega
theorem sub_over {a b : Int} (ha : I64 a) (hb : I64 b) : subOver a b (IntKind.i64.wrap (a - b)) = !inR (a - b) ∧ (inR (a - b) = true → IntKind.i64.wrap (a - b) = a - b) := by
 obtain ⟨a1, a2⟩ := ha;obtain ⟨b1, b2⟩ := hb;unfold subOver inR;rw [IntKind.wrap_i64];by_cases h1 : a < 0 <;> by_cases h2 : b < 0 <;> by_cases h3 : -9223372036854775808 ≤ a - b <;> by_cases h4 : a - b ≤ 9223372036854775807 <;> by_cases h5 : (a - b + 9223372036854775808) % 18446744073709551616 - 9223372036854775808 < 0 <;> simp [h1, h2, h3, h4, h5] <;> omega
theorem mul_over {a b : Int} (P most : Nat) (hP : (P : Int) = (a.natAbs : Int) * b.natAbs) (hm : most = if (decide (a < 0) != decide (b < 0)) = true then 9223372036854775808 else 9223372036854775807) :
 decide (most < P) = !inR (a * b) := by
 have hab : ((a * b).natAbs : Int) = P := by rw [Int.natAbs_mul, Int.natCast_mul, hP]
 unfold inR;have hsg : (a * b = (P : Int) ∧ (decide (a < 0) != decide (b < 0)) = false) ∨ (a * b = -(P : Int) ∧ (decide (a < 0) != decide (b < 0)) = true) := by
  by_cases h1 : a < 0 <;> by_cases h2 : b < 0
  · left
    have : 0 < a * b := Int.mul_pos_of_neg_of_neg h1 h2;exact ⟨by omega, by simp [h1, h2]⟩
  · right
    have : a * b ≤ 0 := Int.mul_nonpos_of_nonpos_of_nonneg (by omega) (by omega);exact ⟨by omega, by simp [h1, h2]⟩
  · right
    have : a * b ≤ 0 := Int.mul_nonpos_of_nonneg_of_nonpos (by omega) (by omega);exact ⟨by omega, by simp [h1, h2]⟩
  · left
    have : 0 ≤ a * b := Int.mul_nonneg (by omega) (by omega);exact ⟨by omega, by simp [h1, h2]⟩
 rcases hsg with ⟨e, hs⟩ | ⟨e, hs⟩
 · rw [hs] at hm;rw [e];simp only [Bool.false_eq_true, if_false] at hm;by_cases h : P ≤ 9223372036854775807
   · have : ¬ most < P := (by omega);have h2 : (P : Int) ≤ 9223372036854775807 := (by omega);have h3 : -9223372036854775808 ≤ (P : Int) := (by omega);simp [this, h2, h3]
   · have : most < P := (by omega);have h2 : ¬ (P : Int) ≤ 9223372036854775807 := (by omega);simp [this, h2]
 · rw [hs] at hm;rw [e];simp only [if_true] at hm;by_cases h : P ≤ 9223372036854775808
   · have : ¬ most < P := (by omega);have h2 : -(P : Int) ≤ 9223372036854775807 := (by omega);have h3 : -9223372036854775808 ≤ -(P : Int) := (by omega);simp [this, h2, h3]
   · have : most < P := (by omega);have h3 : ¬ -9223372036854775808 ≤ -(P : Int) := (by omega);simp [this, h3]
end Go.Proofs.YtpheiojmcafolaaGreatDoor
namespace Go.Proofs.YtpheiojmcafolaaGreatDoor
set_option maxRecDepth 100000
open Go.RowKit
def rsN (r : Rs Int) : Int := match r with | .ok n => n | .bad _ => 0
def rsB (r : Rs Bool) : Bool := match r with | .ok b => b | .bad _ => false
def rsE {α : Type} (r : Rs α) : Int := match r with | .ok _ => 0 | .bad k => k
theorem num_size (a : Int) (w : World) (ha : I64 a) : Calls Tryz.prog 156 #[.int .i64 a] w fun r w' => r = .returned (.int .u64 (a.natAbs : Nat)) ∧ w' = w := by
 obtain ⟨a1, a2⟩ := ha;by_cases h : a < 0
 · have t : decide (a < 0) = true := by simp [h]
   have e : IntKind.u64.wrap (-(IntKind.u64.wrap a)) = (a.natAbs : Int) := by rw [IntKind.wrap_u64, IntKind.wrap_u64]; omega
   go_enter Tryz.func156, Tryz.ntmps156
   go_wp2_with fail
   go_ret
   exact ⟨by first | rfl | (rw [← e]; rfl) | (simp only [e]), rfl⟩
 · have t : decide (a < 0) = false := by simp [h]
   have e : IntKind.u64.wrap a = (a.natAbs : Int) := by rw [IntKind.wrap_u64]; omega
   go_enter Tryz.func156, Tryz.ntmps156
   go_wp2_with fail
   go_ret
   exact ⟨by first | rfl | (rw [← e]; rfl) | (simp only [e]), rfl⟩
def NumRet (r : Rs Int) (e : Ending) : Prop := e = .returned (.tuple #[.int .i64 (rsN r), errV (rsE r)])
theorem numR_add {a b : Int} : numR 17 a b = if inR (a + b) = true then .ok (a + b) else .bad 5 := rfl
theorem numR_sub {a b : Int} : numR 18 a b = if inR (a - b) = true then .ok (a - b) else .bad 5 := rfl
theorem numR_mul {a b : Int} : numR 19 a b = if inR (a * b) = true then .ok (a * b) else .bad 5 := rfl
set_option maxHeartbeats 3200000 in
theorem num_add (a b : Int) (w : World) (ha : I64 a) (hb : I64 b) : Calls Tryz.prog 124 #[.int .i64 17, .int .i64 a, .int .i64 b] w fun r w' => NumRet (numR 17 a b) r ∧ w' = w := by
 obtain ⟨h1, h2⟩ := add_over ha hb;have HR : Hid (numR 17 a b = if inR (a + b) = true then .ok (a + b) else .bad 5) := rfl;have H2 := Lib.hid h2;unfold addOver at h1;obtain ⟨q, hq⟩ : ∃ q, inR (a + b) = q := ⟨_, rfl⟩;rw [hq] at h1;have HQ := Lib.hid hq;obtain ⟨c, hc⟩ : ∃ c, IntKind.i64.wrap (a + b) = c := ⟨_, rfl⟩;rw [hc] at h1;have HC := Lib.hid hc;clear h2 hq;cases hx : decide (a < 0) <;> cases hy : decide (b < 0) <;> cases hz : decide (c < 0) <;> rw [hx, hy, hz] at h1 <;> cases q <;> first | (exact absurd h1 (by decide)) | (
  clear h1;go_enter Tryz.func124, Tryz.ntmps124
  go_wp2_with fail
  go_ret2
  refine ⟨?_, rfl⟩;unfold NumRet;rw [HR.out, HQ.out];first
   | (have e := H2.out HQ.out; rw [HC.out] at e; simp only [if_true, rsN, rsE]; rw [e]; rfl)
   | rfl)
set_option maxHeartbeats 3200000 in
theorem num_sub (a b : Int) (w : World) (ha : I64 a) (hb : I64 b) : Calls Tryz.prog 124 #[.int .i64 18, .int .i64 a, .int .i64 b] w fun r w' => NumRet (numR 18 a b) r ∧ w' = w := by
 obtain ⟨h1, h2⟩ := sub_over ha hb;have HR : Hid (numR 18 a b = if inR (a - b) = true then .ok (a - b) else .bad 5) := rfl;have H2 := Lib.hid h2;unfold subOver at h1;obtain ⟨q, hq⟩ : ∃ q, inR (a - b) = q := ⟨_, rfl⟩;rw [hq] at h1;have HQ := Lib.hid hq;obtain ⟨c, hc⟩ : ∃ c, IntKind.i64.wrap (a - b) = c := ⟨_, rfl⟩;rw [hc] at h1;have HC := Lib.hid hc;clear h2 hq;cases hx : decide (a < 0) <;> cases hy : decide (b < 0) <;> cases hz : decide (c < 0) <;> rw [hx, hy, hz] at h1 <;> cases q <;> first | (exact absurd h1 (by decide)) | (
  clear h1;go_enter Tryz.func124, Tryz.ntmps124
  go_wp2_with fail
  go_ret2
  refine ⟨?_, rfl⟩;unfold NumRet;rw [HR.out, HQ.out];first
   | (have e := H2.out HQ.out; rw [HC.out] at e; simp only [if_true, rsN, rsE]; rw [e]; rfl)
   | rfl)
theorem high_over {P most : Nat} (hm : most < 18446744073709551616) : (decide (0 < P / 18446744073709551616) || decide (most < P % 18446744073709551616)) = decide (most < P) := by
 have e := Nat.div_add_mod P 18446744073709551616;by_cases h1 : 0 < P / 18446744073709551616
 · have h2 : most < P := by omega
   simp [h1, h2]
 · have h3 : P / 18446744073709551616 = 0 := by omega
   rw [h3] at e;have h4 : P % 18446744073709551616 = P := by omega
   simp [h3, h4]
set_option maxHeartbeats 3200000 in
theorem num_mul (a b : Int) (w : World) (ha : I64 a) (hb : I64 b) : Calls Tryz.prog 124 #[.int .i64 19, .int .i64 a, .int .i64 b] w fun r w' => NumRet (numR 19 a b) r ∧ w' = w := by
 have HR : Hid (numR 19 a b = if inR (a * b) = true then .ok (a * b) else .bad 5) := rfl;have HA := Lib.hid (fun W => num_size a W ha);have HB := Lib.hid (fun W => num_size b W hb);obtain ⟨ha1, ha2⟩ := ha;obtain ⟨hb1, hb2⟩ := hb;have hza : a.natAbs < 18446744073709551616 := by omega
 have hzb : b.natAbs < 18446744073709551616 := by omega
 have HM := Lib.hid (fun W => Tryz.bits_Mul64 a.natAbs b.natAbs hza hzb W);have HOV := Lib.hid (fun most hm => mul_over (a := a) (b := b) (a.natAbs * b.natAbs) most (by simp) hm);have HW : Hid (inR (a * b) = true → IntKind.i64.wrap (a * b) = a * b) := by
  intro h;unfold inR at h;simp only [Bool.and_eq_true, decide_eq_true_eq] at h;rw [IntKind.wrap_i64]; omega
 obtain ⟨hi, hhi⟩ : ∃ hi : Nat, a.natAbs * b.natAbs / 18446744073709551616 = hi := ⟨_, rfl⟩;obtain ⟨lo, hlo⟩ : ∃ lo : Nat, a.natAbs * b.natAbs % 18446744073709551616 = lo := ⟨_, rfl⟩;rw [hhi, hlo] at HM;have HHI := Lib.hid hhi;have HLO := Lib.hid hlo;clear hhi hlo;obtain ⟨na, hna⟩ : ∃ na, a.natAbs = na := ⟨_, rfl⟩;obtain ⟨nb, hnb⟩ : ∃ nb, b.natAbs = nb := ⟨_, rfl⟩;rw [hna] at HA HM hza;rw [hnb] at HB HM hzb;rw [hna, hnb] at HHI HLO HOV;obtain ⟨q, hq⟩ : ∃ q, inR (a * b) = q := ⟨_, rfl⟩;have HQ := Lib.hid hq;obtain ⟨c, hc⟩ : ∃ c, IntKind.i64.wrap (a * b) = c := ⟨_, rfl⟩;have HC := Lib.hid hc;clear hna hnb hq ha1 ha2 hb1 hb2 hza hzb;have HHL : Hid (∀ most : Nat, most < 18446744073709551616 → most = (if (decide (a < 0) != decide (b < 0)) = true then 9223372036854775808 else 9223372036854775807) → (decide (0 < hi) || decide (most < lo)) = !q) := by
  intro most hm he;have h := HOV.out most he;rw [HQ.out, ← high_over hm, HHI.out, HLO.out] at h;exact h
 clear HOV HHI HLO;cases hx : decide (a < 0) <;> cases hy : decide (b < 0)
 · have hov := HHL.out 9223372036854775807 (by omega) (by rw [hx, hy]; rfl);have e1 : decide ((0 : Int) < (hi : Int)) = decide (0 < hi) := by rw [decide_eq_decide]; omega
   have e2 : decide ((9223372036854775807 : Int) < (lo : Int)) = decide (9223372036854775807 < lo) := by rw [decide_eq_decide]; omega
   cases h1 : decide (0 < hi) <;> cases h2 : decide (9223372036854775807 < lo) <;> rw [h1, h2] at hov <;> rw [h1] at e1 <;> rw [h2] at e2 <;> cases q <;> first | (exact absurd hov (by decide)) | (
    clear hov;go_enter Tryz.func124, Tryz.ntmps124
    go_wp2_with fail
    refine (HA.out _).mono ?_;rintro r w1 ⟨rfl, rfl⟩;go_wp2_with fail
    refine (HB.out _).mono ?_;rintro r w1 ⟨rfl, rfl⟩;go_wp2_with fail
    refine (HM.out _).mono ?_;rintro r w1 ⟨rfl, rfl⟩;go_wp2_with fail
    go_ret2
    refine ⟨?_, rfl⟩;unfold NumRet;rw [HR.out, HQ.out];first
     | rfl
     | (have e := HW.out HQ.out; rw [HC.out] at e; subst e; rfl))
 · have hov := HHL.out 9223372036854775808 (by omega) (by rw [hx, hy]; rfl);have e1 : decide ((0 : Int) < (hi : Int)) = decide (0 < hi) := by rw [decide_eq_decide]; omega
   have e2 : decide ((9223372036854775808 : Int) < (lo : Int)) = decide (9223372036854775808 < lo) := by rw [decide_eq_decide]; omega
   cases h1 : decide (0 < hi) <;> cases h2 : decide (9223372036854775808 < lo) <;> rw [h1, h2] at hov <;> rw [h1] at e1 <;> rw [h2] at e2 <;> cases q <;> first | (exact absurd hov (by decide)) | (
    clear hov;go_enter Tryz.func124, Tryz.ntmps124
    go_wp2_with fail
    refine (HA.out _).mono ?_;rintro r w1 ⟨rfl, rfl⟩;go_wp2_with fail
    refine (HB.out _).mono ?_;rintro r w1 ⟨rfl, rfl⟩;go_wp2_with fail
    refine (HM.out _).mono ?_;rintro r w1 ⟨rfl, rfl⟩;go_wp2_with fail
    go_ret2
    refine ⟨?_, rfl⟩;unfold NumRet;rw [HR.out, HQ.out];first
     | rfl
     | (have e := HW.out HQ.out; rw [HC.out] at e; subst e; rfl))
 · have hov := HHL.out 9223372036854775808 (by omega) (by rw [hx, hy]; rfl);have e1 : decide ((0 : Int) < (hi : Int)) = decide (0 < hi) := by rw [decide_eq_decide]; omega
   have e2 : decide ((9223372036854775808 : Int) < (lo : Int)) = decide (9223372036854775808 < lo) := by rw [decide_eq_decide]; omega
   cases h1 : decide (0 < hi) <;> cases h2 : decide (9223372036854775808 < lo) <;> rw [h1, h2] at hov <;> rw [h1] at e1 <;> rw [h2] at e2 <;> cases q <;> first | (exact absurd hov (by decide)) | (
    clear hov;go_enter Tryz.func124, Tryz.ntmps124
    go_wp2_with fail
    refine (HA.out _).mono ?_;rintro r w1 ⟨rfl, rfl⟩;go_wp2_with fail
    refine (HB.out _).mono ?_;rintro r w1 ⟨rfl, rfl⟩;go_wp2_with fail
    refine (HM.out _).mono ?_;rintro r w1 ⟨rfl, rfl⟩;go_wp2_with fail
    go_ret2
    refine ⟨?_, rfl⟩;unfold NumRet;rw [HR.out, HQ.out];first
     | rfl
     | (have e := HW.out HQ.out; rw [HC.out] at e; subst e; rfl))
 · have hov := HHL.out 9223372036854775807 (by omega) (by rw [hx, hy]; rfl);have e1 : decide ((0 : Int) < (hi : Int)) = decide (0 < hi) := by rw [decide_eq_decide]; omega
   have e2 : decide ((9223372036854775807 : Int) < (lo : Int)) = decide (9223372036854775807 < lo) := by rw [decide_eq_decide]; omega
   cases h1 : decide (0 < hi) <;> cases h2 : decide (9223372036854775807 < lo) <;> rw [h1, h2] at hov <;> rw [h1] at e1 <;> rw [h2] at e2 <;> cases q <;> first | (exact absurd hov (by decide)) | (
    clear hov;go_enter Tryz.func124, Tryz.ntmps124
    go_wp2_with fail
    refine (HA.out _).mono ?_;rintro r w1 ⟨rfl, rfl⟩;go_wp2_with fail
    refine (HB.out _).mono ?_;rintro r w1 ⟨rfl, rfl⟩;go_wp2_with fail
    refine (HM.out _).mono ?_;rintro r w1 ⟨rfl, rfl⟩;go_wp2_with fail
    go_ret2
    refine ⟨?_, rfl⟩;unfold NumRet;rw [HR.out, HQ.out];first
     | rfl
     | (have e := HW.out HQ.out; rw [HC.out] at e; subst e; rfl))
theorem num_Neg (a : Int) (w : World) (ha : I64 a) : Calls Tryz.prog 113 #[.int .i64 a] w fun r w' => NumRet (numR 18 0 a) r ∧ w' = w := by
 have H := Lib.hid (num_sub 0 a w ⟨by omega, by omega⟩ ha);generalize numR 18 0 a = q at H ⊢;go_enter Tryz.func113, Tryz.ntmps113
 go_wp2_with fail
 refine H.out.mono ?_;rintro r w1 ⟨hr, rfl⟩;unfold NumRet at hr;subst hr;go_wp2_with fail
 go_ret2
 exact ⟨rfl, rfl⟩
theorem num_Do (op a b : Int) (w : World) (ho : op = 17 ∨ op = 18 ∨ op = 19) (ha : I64 a) (hb : I64 b) : Calls Tryz.prog 124 #[.int .i64 op, .int .i64 a, .int .i64 b] w fun r w' => NumRet (numR op a b) r ∧ w' = w := by
 rcases ho with rfl | rfl | rfl
 · exact num_add a b w ha hb
 · exact num_sub a b w ha hb
 · exact num_mul a b w ha hb
end Go.Proofs.YtpheiojmcafolaaGreatDoor
namespace Go.Proofs.YtpheiojmcafolaaGreatDoor
set_option maxRecDepth 100000
open Go.RowKit Go.Sort
theorem strn_info : (Tryz.prog.info? 9).map (fun i => (i.zero, i.size, i.bytes)) = some (some (.string ⟨#[]⟩), 1, 16) := by kernel_rfl
theorem own_sl {w : World} {base k : Nat} {e : TypeId} {v : Value} {n : Nat} {xs : List Value} (h : w.ownsRow base e k v n xs) : ∃ A c, v = .slice A n c ∧ n ≤ c := by
 rcases h.2 with ⟨hv, h0⟩ | ⟨g, cap, cur, hv, _, _, h1, _⟩
 · exact ⟨none, 0, by rw [hv, h0], by omega⟩
 · exact ⟨some ⟨g, 0, none⟩, cap, hv, h1⟩
structure NsFar (g : Nat → Prop) (w : World) (x : NsM) : Prop where
 off : NdOff g w w.heap.size x.A x.e
 le : x.e.length ≤ x.c
 max : x.c ≤ 9223372036854775807
theorem NsFar.turn {g g' : Nat → Prop} {w w' : World} {x : NsM} (h : NsFar g w x) (hs : w.heap.size ≤ w'.heap.size) (hk : ∀ k, k < w.heap.size → ¬ g k → w'.heap[k]? = w.heap[k]?) (hg : ∀ b, b < w.heap.size → g' b → g b) : NsFar g' w' x :=
 ⟨fun hne => by
  obtain ⟨b, o, e, h1, h2, h3⟩ := h.off hne;have hc : ∀ i, w'.cell? ⟨b, i, none⟩ = w.cell? ⟨b, i, none⟩ := fun i => World.cell?_of_block (a := ⟨b, i, none⟩) (hk b h1 h2);exact ⟨b, o, e, Nat.lt_of_lt_of_le h1 hs, fun hh => h2 (hg b h1 hh), fun i y hy => by
   obtain ⟨q0, q1, q2, q3⟩ := h3 i y hy;exact ⟨(hc _).trans q0, (hc _).trans q1, (hc _).trans q2, (hc _).trans q3⟩⟩, h.le, h.max⟩
theorem NsFar.good {g : Nat → Prop} {w : World} {x : NsM} (h : NsFar g w x) : NsGood w w.heap.size x := ⟨h.off.sl, h.le, h.max⟩
theorem grown_of_only {w w' : World} {rb : Nat} (h : Only w.heap.size rb w w') : w.grownBy w' (some rb) := ⟨h.os, h.tape, h.output, h.size, fun k hk hne => h.block k hk (fun e => hne (by rw [e]))⟩
def G3 (rb : Nat) (pv nv : Value) (b : Nat) : Prop := b = rb ∨ pv.ownBlock = some b ∨ nv.ownBlock = some b
theorem part_at {x : Nd} {ps : List (List Nd)} {j : Nat} {p : List Nd} (h : ps[j]? = some p) (hv : Vx p) : vGo (x :: ps.flatten) (2 * (x :: ps.flatten).length) .one (1 + (ps.take j).flatten.length) = some (1 + (ps.take j).flatten.length + p.length) := by
 have e0 : x :: ps.flatten = (x :: (ps.take j).flatten) ++ p ++ (ps.drop (j + 1)).flatten := by rw [flat_split h]; simp
 have hr := rd_vx hv (x :: (ps.take j).flatten) (ps.drop (j + 1)).flatten (2 * (x :: ps.flatten).length) (by rw [e0]; simp; omega);rw [← e0, show (x :: (ps.take j).flatten).length = 1 + (ps.take j).flatten.length from by simp; omega] at hr;exact hr
theorem fld_at {x f : Nd} {ps : List (List Nd)} {j : Nat} {u : List Nd} (h : ps[j]? = some (f :: u)) (hv : Vx u) :
 vGo (x :: ps.flatten) (2 * (x :: ps.flatten).length) .one (1 + (ps.take j).flatten.length + 1) = some (1 + (ps.take j).flatten.length + 1 + u.length) ∧
 piece (x :: ps.flatten) (1 + (ps.take j).flatten.length + 1) (1 + (ps.take j).flatten.length + 1 + u.length) = u ∧ (x :: ps.flatten)[1 + (ps.take j).flatten.length]? = some f := by
 have e0 : x :: ps.flatten = (x :: (ps.take j).flatten ++ [f]) ++ u ++ (ps.drop (j + 1)).flatten := by rw [flat_split h]; simp
 have hr := rd_vx hv (x :: (ps.take j).flatten ++ [f]) (ps.drop (j + 1)).flatten (2 * (x :: ps.flatten).length) (by rw [e0]; simp; omega);have hm := piece_mid (x :: (ps.take j).flatten ++ [f]) u (ps.drop (j + 1)).flatten;rw [← e0, show (x :: (ps.take j).flatten ++ [f]).length = 1 + (ps.take j).flatten.length + 1 from by simp; omega] at hr hm;refine ⟨hr, hm, ?_⟩;rw [e0, show 1 + (ps.take j).flatten.length = (x :: (ps.take j).flatten).length from by simp; omega, List.append_assoc, List.append_assoc, List.getElem?_append_right (Nat.le_refl _)];simp
def cont (x : Nd) (p : List Nd) : List Nd := if x.op = 6 then p.tail else p
def SplitBack (w : World) (r : Ending) (w' : World) (qs : List (List Nd)) (ns : List (List UInt8)) : Prop :=
 ∃ (Ap : Option Addr) (cp : Nat) (An : Option Addr) (cn : Nat) (ms : List NsM), r = .returned (.tuple #[.slice Ap ms.length cp, .slice An ns.length cn]) ∧ ms.map NsM.e = qs ∧ ms.length ≤ cp ∧ cp ≤ 9223372036854775807 ∧ NssAt w' Ap ms ∧
  StrSl w' w'.heap.size An ns ∧ RowKit.Below w.heap.size w w' ∧ (∀ y ∈ ms, ∀ b o, y.A = some ⟨b, o, none⟩ → y.e ≠ [] → w.heap.size ≤ b) ∧ (∀ b o, Ap = some ⟨b, o, none⟩ → w.heap.size ≤ b)
theorem own_strs {w : World} {base : Nat} {e : TypeId} {v : Value} {n : Nat} {ss : List (List UInt8)} (h : w.ownsRow base e 1 v n (ss.map encStr)) : ∃ A c, v = .slice A ss.length c ∧ StrSl w w.heap.size A ss := by
 have hn : n = ss.length := by have := h.1; simp at this; omega
 subst hn;rcases h.2 with ⟨hv, h0⟩ | ⟨g, cap, cur, hv, _, hg, _, _, _, _⟩
 · have : ss = [] := List.eq_nil_of_length_eq_zero h0;subst this;exact ⟨none, 0, hv, StrSl.nil _ _ _⟩
 · refine ⟨some ⟨g, 0, none⟩, cap, hv, fun hne => ⟨g, 0, rfl, (Array.getElem?_eq_some_iff.1 hg).1, fun i l hl => ?_⟩⟩;have hi := (List.getElem?_eq_some_iff.1 hl).1;subst hv;have := h.cellAt i (by omega);rw [Nat.zero_add];rw [this, List.getElem?_map, hl]; rfl
set_option maxHeartbeats 12800000 in
theorem val_split (x : Nd) (ps : List (List Nd)) (A : Option Addr) (c : Nat) (w : World) (hl : (x :: ps.flatten).length ≤ 200) (hn : x.n = ps.length) (h5 : x.op = 5 → ∀ p ∈ ps, Vx p) (h6 : x.op = 6 → ∀ p ∈ ps, ∃ f u, p = f :: u ∧ Vx u) (hop : x.op = 5 ∨ x.op = 6)
 (hc : (x :: ps.flatten).length ≤ c) (hcm : c ≤ 9223372036854775807) (hok : NdOk (x :: ps.flatten)) (hsl : NdSl w w.heap.size A (x :: ps.flatten)) :
 Calls Tryz.prog 146 #[.slice A (x :: ps.flatten).length c] w fun r w' => SplitBack w r w' (ps.map (cont x)) (if x.op = 6 then namesOf ps else []) := by
 obtain ⟨i0, hi, hz0, hz1, hz2⟩ := info_parts ns_info;obtain ⟨j0, hj, hy0, hy1, hy2⟩ := info_parts strn_info;have hpl : ps.length ≤ 199 := by
  have h1 : ∀ l : List (List Nd), (∀ p ∈ l, p ≠ []) → l.length ≤ l.flatten.length := by
   intro l;induction l with
   | nil => simp
   | cons p r ih =>
    intro h;have a1 := ih (fun q hq => h q (by simp [hq]));have a2 := List.length_pos_iff.2 (h p (by simp));rw [List.flatten_cons, List.length_append, List.length_cons]; omega
  have h2 := h1 ps (fun p hp => by
   rcases hop with h | h
   · obtain ⟨y, r, e, _⟩ := (h5 h p hp).ne;rw [e]; simp
   · obtain ⟨f, u, e, _⟩ := h6 h p hp;rw [e]; simp)
  rw [List.length_cons] at hl; omega
 obtain ⟨b, o, rfl, hb, hcs⟩ := hsl (by simp);obtain ⟨d0, d1, -, -⟩ := hcs 0 x rfl;rw [Nat.zero_mul, Nat.add_zero] at d0 d1;rw [hn] at d1;have HS := Lib.hid hsl;have HCS := Lib.hid hcs;have HOK := Lib.hid hok;have H5 := Lib.hid h5;have H6 := Lib.hid h6;have HPO := Lib.hid (fun i => part_all (x :: ps.flatten) (2 * (x :: ps.flatten).length) i);have HB0 : Hid (Blk (w.alloc (.cells #[.slice (some ⟨b, o, none⟩) (x :: ps.flatten).length c, .int .i64 1] 160)) w.heap.size 160 (rdr (some ⟨b, o, none⟩) (x :: ps.flatten).length c 1)) := Blk.new w _ _;have h0n : (0 : Int) < ((x :: ps.flatten).length : Int) := by simp
 have HE : ∀ j p, ps[j]? = some p → Hid ((x :: ps.flatten).length = (x :: ps.flatten).length ∧ 1 + (ps.take j).flatten.length + p.length ≤ (x :: ps.flatten).length) := fun j p hp => ⟨rfl, by
  have a1 := flat_step hp;have a2 := flat_take_le ps (j + 1);rw [List.length_cons]; omega⟩
 have HEE := Lib.hid HE;have HPA := Lib.hid (fun j p (hp : ps[j]? = some p) (hv : Vx p) => And.intro (part_at (x := x) hp hv) (cut_piece (x := x) hp));have HFA := Lib.hid (fun j f u (hp : ps[j]? = some (f :: u)) (hv : Vx u) => fld_at (x := x) hp hv);obtain ⟨e, hee⟩ : ∃ e, x :: ps.flatten = e := ⟨_, rfl⟩;rw [hee] at HS HCS HOK HPO HB0 h0n HEE HPA HFA hl hc ⊢;clear hee hok hsl hcs h5 h6 HE hn;obtain ⟨NS, hNS⟩ : ∃ NS, (if x.op = 6 then namesOf ps else []) = NS := ⟨_, rfl⟩;rw [hNS];have HNS := Lib.hid hNS;clear hNS;have k1 : RowKit.Below w.heap.size w (w.alloc (.cells #[.slice (some ⟨b, o, none⟩) e.length c, .int .i64 1] 160)) := by (repeat (first | assumption | exact Below.refl _ _ | apply Below.drew | apply below_drewN | (refine Below.alloc ?_ (by first | exact Nat.le_refl _ | omega | (simp; done) | (simp; omega)) _)))
 have HNM : Hid (ps.map (cont x) = ps.map (cont x)) := rfl;go_enter Tryz.func146, Tryz.ntmps146
 go_wp2_with fail
 go_loopw [2, 3, 12] (fun pv nv iv wr => ∃ (j a : Nat) (ms : List NsM) (ns : List (List UInt8)), iv = .int .i64 j ∧ j ≤ ps.length ∧ ms.length ≤ j ∧ ns.length ≤ j ∧ Hid (a = 1 + (ps.take j).flatten.length) ∧ Hid (ms.map NsM.e = (ps.take j).map (cont x)) ∧ Hid (ns = if x.op = 6 then namesOf (ps.take j) else []) ∧
  Hid (wr.ownsRow (w.heap.size + 1) 22 1 pv ms.length (flatG NsM.cells ms)) ∧ Hid (wr.ownsRow (w.heap.size + 1) 9 1 nv ns.length (ns.map encStr)) ∧ Hid (∀ b, pv.ownBlock = some b → nv.ownBlock ≠ some b) ∧
  Hid (∀ y ∈ ms, NsFar (G3 w.heap.size pv nv) wr y ∧ ∀ b o, y.A = some ⟨b, o, none⟩ → y.e ≠ [] → w.heap.size ≤ b) ∧ Hid (Blk wr w.heap.size 160 (rdr (some ⟨b, o, none⟩) e.length c a)) ∧ RowKit.Below w.heap.size w wr) (fun _ _ iv _ => ps.length - (intOf iv).toNat)
 case atStart =>
  refine ⟨0, 1, [], [], rfl, by omega, by simp, by simp, rfl, rfl, ?_, World.ownsRow_nil _ _ _ _, World.ownsRow_nil _ _ _ _, ?_, ?_, HB0.out, k1⟩
  · show _ = _; split <;> rfl
  · intro b hb; cases hb
  · intro y hy; cases hy
 case round =>
  obtain ⟨j, a, ms, ns, rfl, hj1, hml, hnl, HA, HM, HN, HO, HON, HDJ, HF, HB, hbr⟩ := hrel;have hzr := hbr.size;have hzb : w.heap.size < wr.heap.size := HB.out.lt;have f0 := (hbr.cell (p := ⟨b, o, none⟩) hb).trans d0;have f1 := (hbr.cell (p := ⟨b, o + 1, none⟩) hb).trans d1;by_cases hlt : j < ps.length
  · have tl : decide ((j : Int) < (ps.length : Int)) = true := (by simp; omega);obtain ⟨p, hp⟩ : ∃ p, ps[j]? = some p := ⟨_, List.getElem?_eq_getElem hlt⟩;have hpe := (HEE.out j p hp).out.2;have HP := Lib.hid hp;have hpm := List.mem_of_getElem? hp;obtain ⟨Ap, cp, hpv, hcp⟩ := own_sl HO.out;subst hpv;obtain ⟨An, cn, hnv, hcn⟩ := own_sl HON.out;subst hnv;by_cases h6 : x.op = 6
    · have t6 : (x.op == 6) = true := (by simp [h6]);obtain ⟨f, u, rfl, hu⟩ := H6.out h6 p hpm;obtain ⟨g1, g2, g3⟩ := HFA.out j f u hp hu;rw [← HA.out] at g1 g2 g3 hpe;have hae : a < e.length := (by simp at hpe; omega);have q2 : wr.cell? ⟨b, o + a * 4 + 2, none⟩ = some (.string f.s) := (hbr.cell (p := ⟨b, o + a * 4 + 2, none⟩) hb).trans (HCS.out a f g3).c2;have r0 : wr.cell? ⟨w.heap.size, 1, none⟩ = some (.int .i64 a) := HB.out.cell 1;have H6E := Lib.hid h6;have HG1 := Lib.hid g1;have HG2 := Lib.hid g2;have hul : u.length + 1 + a ≤ e.length := (by simp at hpe; omega);have ho1 : Hid ((wr.alloc (.cells #[.string f.s] 9)).ownsRow (w.heap.size + 1) 9 1 (.slice An ns.length cn) ns.length (ns.map encStr)) := own_keep HON.out (by (repeat (first | assumption | exact Below.refl _ _ | apply Below.drew | apply below_drewN | (refine Below.alloc ?_ (by first | exact Nat.le_refl _ | omega | (simp; done) | (simp; omega)) _))));clear h6 g1 g2 g3 hp hpm hu hpe;have HSF := Lib.hid (fun (wB : World) (hg : (wr.alloc (.cells #[.string f.s] 9)).grownBy wB (Value.slice An ns.length cn).ownBlock) => (show wB.cell? ⟨w.heap.size, 1, none⟩ = some (.int .i64 a) ∧ wB.frozen? ⟨w.heap.size, 1, none⟩ = false from by
       have hB : Blk wB w.heap.size 160 (rdr (some ⟨b, o, none⟩) e.length c a) := ((hg.block w.heap.size (by simp; omega) (fun h => by have := (own_lt HON.out h.symm).1; omega)).trans (RowKit.Below.heap_alloc _ _ _ hzb)).trans HB.out;exact ⟨hB.cell 1, hB.frozen 1⟩))
      go_wp2_with (at_builtin; refine wpList_append_own_at _ rfl (.tmp 19) (.tmp 28) 23 rfl (w.heap.size + 1) 9 j0 _ 1 16 Tryz.underlying23 hj hy0 hy1 hy2 rfl (by omega) _ ns.length (ns.map encStr) rfl ho1.out ⟨wr.heap.size, 0, none⟩ 1 1 [.string f.s] rfl rfl (cell_one_new _ _ _) (by simp [Value.oneCell']) (by unfold maxLen; omega) (by omega) (by simp; omega) ?_; intro nv2 wB hown2 hgrow2 _ hloc2; obtain ⟨An2, cn2, hnv2, hcn2⟩ := own_sl hown2; subst hnv2; obtain ⟨s0, s1⟩ := HSF.out wB hgrow2)
      have hnb : ∀ q, (Value.slice An ns.length cn).ownBlock = some q → w.heap.size + 1 ≤ q ∧ q < wr.heap.size := fun q hq => own_lt HON.out hq;have hpb : ∀ q, (Value.slice Ap ms.length cp).ownBlock = some q → w.heap.size + 1 ≤ q ∧ q < wr.heap.size := fun q hq => own_lt HO.out hq;have hzB : wr.heap.size + 1 ≤ wB.heap.size := (by have := hgrow2.size; simpa using this);have hkB : ∀ k, k < wr.heap.size → (Value.slice An ns.length cn).ownBlock ≠ some k → wB.heap[k]? = wr.heap[k]? := fun k hk hne => (hgrow2.block k (by simp; omega) (fun e => hne e.symm)).trans (RowKit.Below.heap_alloc _ _ _ hk);have HBB : Hid (Blk wB w.heap.size 160 (rdr (some ⟨b, o, none⟩) e.length c a)) := (hkB w.heap.size hzb (fun h => by have := (hnb _ h).1; omega)).trans HB.out;have HOB : Hid (wB.ownsRow (w.heap.size + 1) 22 1 (.slice Ap ms.length cp) ms.length (flatG NsM.cells ms)) :=
       (own_keep HO.out (by (repeat (first | assumption | exact Below.refl _ _ | apply Below.drew | apply below_drewN | (refine Below.alloc ?_ (by first | exact Nat.le_refl _ | omega | (simp; done) | (simp; omega)) _))) : RowKit.Below wr.heap.size wr (wr.alloc (.cells #[.string f.s] 9)))).kept hgrow2 (by
        cases hh : (Value.slice Ap ms.length cp).ownBlock with
        | none => exact .inl rfl
        | some q => exact .inr (fun h => HDJ.out q hh h.symm))
      have HONB : Hid (wB.ownsRow (w.heap.size + 1) 9 1 (.slice An2 (ns.length + 1) cn2) (ns ++ [f.s.toList]).length ((ns ++ [f.s.toList]).map encStr)) := by
       show World.ownsRow _ _ _ _ _ _ _;rw [List.map_append, List.map_singleton, encStr_of, List.length_append]; exact hown2
      have HDB : Hid (∀ q, (Value.slice Ap ms.length cp).ownBlock = some q → (Value.slice An2 (ns.length + 1) cn2).ownBlock ≠ some q) := fun q hq h => by
       rcases hloc2 with h2 | h2
       · exact HDJ.out q hq (h2 ▸ h)
       · rw [h2] at h; injection h with h; have := (hpb q hq).2; simp at h; omega
      have HFB : Hid (∀ y ∈ ms, NsFar (G3 w.heap.size (.slice Ap ms.length cp) (.slice An2 (ns.length + 1) cn2)) wB y ∧ ∀ b o, y.A = some ⟨b, o, none⟩ → y.e ≠ [] → w.heap.size ≤ b) := fun y hy => ⟨(HF.out y hy).1.turn (by omega) (fun k hk hg => hkB k hk (fun h => hg (.inr (.inr h)))) (fun q hq h => by
       rcases h with h | h | h
       · exact .inl h
       · exact .inr (.inl h)
       · rcases hloc2 with h2 | h2
         · exact .inr (.inr (h2 ▸ h))
         · rw [h2] at h; injection h with h; simp at h; omega), (HF.out y hy).2⟩
      have hwB : RowKit.Below w.heap.size w wB := RowKit.Below.grown (w := wr.alloc (.cells #[.string f.s] 9)) (by (repeat (first | assumption | exact Below.refl _ _ | apply Below.drew | apply below_drewN | (refine Below.alloc ?_ (by first | exact Nat.le_refl _ | omega | (simp; done) | (simp; omega)) _)))) hgrow2 (by simp; omega) (fun q hq => by have := (hnb q hq).1; omega);clear hown2 hgrow2 hloc2 ho1 r0 q2 f0 f1 hkB HSF;obtain ⟨wX, hwX⟩ : ∃ wX, wB.setCell ⟨w.heap.size, 1, none⟩ (.int .i64 ((a : Int) + 1)) = wX := ⟨_, rfl⟩;have HBX : Hid (Blk wX w.heap.size 160 (rdr (some ⟨b, o, none⟩) e.length c (a + 1))) := (by rw [← hwX]; exact rdr_step HBB.out);have hgX : wB.grownBy wX (some w.heap.size) := (by rw [← hwX]; exact ⟨rfl, rfl, rfl, by simp [World.setCell], fun k hk hne => RowKit.Below.heap_setCell _ _ _ _ (fun h => hne (by simp at h; rw [h]))⟩);rw [hwX];clear hwX s0 s1;have HOX : Hid (wX.ownsRow (w.heap.size + 1) 22 1 (.slice Ap ms.length cp) ms.length (flatG NsM.cells ms)) := HOB.out.kept hgX (.inr (fun h => by have := (hpb _ h).1; omega));have hnb2 : ∀ q, (Value.slice An2 (ns.length + 1) cn2).ownBlock = some q → w.heap.size + 1 ≤ q ∧ q < wB.heap.size := fun q hq => own_lt HONB.out hq;have HONX : Hid (wX.ownsRow (w.heap.size + 1) 9 1 (.slice An2 (ns.length + 1) cn2) (ns ++ [f.s.toList]).length ((ns ++ [f.s.toList]).map encStr)) := HONB.out.kept hgX (.inr (fun h => by have := (hnb2 _ h).1; omega));have HFX : Hid (∀ y ∈ ms, NsFar (G3 w.heap.size (.slice Ap ms.length cp) (.slice An2 (ns.length + 1) cn2)) wX y ∧ ∀ b o, y.A = some ⟨b, o, none⟩ → y.e ≠ [] → w.heap.size ≤ b) := fun y hy => ⟨(HFB.out y hy).1.turn hgX.size (fun k hk hg => hgX.block k hk (fun h => by injection h with h; exact hg (.inl h))) (fun _ _ h => h), (HFB.out y hy).2⟩;have hwX2 : RowKit.Below w.heap.size w wX := hwB.grown hgX hwB.size (fun q hq => by injection hq with hq; omega);have hzX : wr.heap.size + 1 ≤ wX.heap.size := (by have := hgX.size; omega);have HDX := HDB;have HNX : Hid (ns ++ [f.s.toList] = if x.op = 6 then namesOf (ps.take (j + 1)) else []) := by
       show _ = _;have e1 := HN.out;rw [if_pos H6E.out] at e1 ⊢;rw [e1, List.take_add_one, HP.out]; simp [namesOf, headS]
      have HCX : Hid (cont x (f :: u) = u) := (by show _ = _; unfold cont; rw [if_pos H6E.out]; rfl);have HAX : Hid (a + 1 + u.length = 1 + (ps.take (j + 1)).flatten.length) := (by show _ = _; rw [flat_step HP.out, HA.out]; simp; omega);clear HOB HONB HDB HFB hgX HBB;have HQL : Hid ((u).length ≤ 200) := (by show _ ≤ _; omega);have HPR := Lib.hid ((HPO.out (a + 1) wX w.heap.size (some ⟨b, o, none⟩) c (by omega) (by omega) hc hcm HOK.out HBX.out (HS.out.below hwX2)).1 _ HG1.out);rw [HG2.out] at HPR;have hzW : w.heap.size < wX.heap.size := HBX.out.lt;clear HBX;go_wp2_with fail
      refine HPR.out.mono ?_;rintro r w1 ⟨A1, c1, rfl, hs1, hb1, ho1⟩;have hzx1 := ho1.size;have HCL := Lib.hid (clone_nodes (u) A1 c1 w1 (hs1.more (by omega)) HQL.out);have HB1 := Lib.hid hb1;clear hs1 hb1;go_wp2_with fail
      refine HCL.out.mono ?_;rintro r w2 ⟨A2, c2, rfl, hl2, hm2, hfar2, hb2⟩;have hzx2 := hb2.size;have hg12 := grown_of_only ho1;have HO3 : Hid ((w2.alloc (.cells #[.slice A2 (u).length c2] 22)).ownsRow (w.heap.size + 1) 22 1 (.slice Ap ms.length cp) ms.length (flatG NsM.cells ms)) :=
       own_keep (own_keep (HOX.out.kept hg12 (.inr (fun h => by have := (hpb _ h).1; omega))) hb2) (by (repeat (first | assumption | exact Below.refl _ _ | apply Below.drew | apply below_drewN | (refine Below.alloc ?_ (by first | exact Nat.le_refl _ | omega | (simp; done) | (simp; omega)) _))))
      have hnbX : ∀ q, (Value.slice An2 (ns.length + 1) cn2).ownBlock = some q → w.heap.size + 1 ≤ q ∧ q < wX.heap.size := fun q hq => own_lt HONX.out hq;have HON3 : Hid ((w2.alloc (.cells #[.slice A2 (u).length c2] 22)).ownsRow (w.heap.size + 1) 9 1 (.slice An2 (ns.length + 1) cn2) (ns ++ [f.s.toList]).length ((ns ++ [f.s.toList]).map encStr)) :=
       own_keep (own_keep (HONX.out.kept hg12 (.inr (fun h => by have := (hnbX _ h).1; omega))) hb2) (by (repeat (first | assumption | exact Below.refl _ _ | apply Below.drew | apply below_drewN | (refine Below.alloc ?_ (by first | exact Nat.le_refl _ | omega | (simp; done) | (simp; omega)) _))))
      have HFR := Lib.hid (hfar2 (G3 w.heap.size (.slice Ap ms.length cp) (.slice An2 (ns.length + 1) cn2)) (fun q hq => by
       rcases hq with h | h | h
       · omega
       · have := (hpb q h).2; omega
       · have := (hnbX q h).2; omega))
      have HNEW : Hid (∀ b o, A2 = some ⟨b, o, none⟩ → (u) ≠ [] → w.heap.size ≤ b) := fun b' o' h hne => by
       obtain ⟨b3, o3, e3, _, h3, _⟩ := hfar2 (fun b => b < w.heap.size) (fun b hb => by omega) hne;rw [h] at e3; injection e3 with e3; injection e3 with e3 _; omega
      have H2M := Lib.hid hl2;clear hfar2 ho1 hl2;go_wp2_with (at_builtin; refine wpList_append_own_at _ rfl (.tmp 37) (.tmp 41) 152 rfl (w.heap.size + 1) 22 i0 _ 1 24 Tryz.underlying152 hi hz0 hz1 hz2 rfl (by omega) _ ms.length (flatG NsM.cells ms) rfl HO3.out ⟨w2.heap.size, 0, none⟩ 1 1 [.slice A2 (u).length c2] rfl rfl (cell_one_new _ _ _) (by simp [Value.oneCell']) (by unfold maxLen; omega) (by omega) (by simp; omega) ?_; intro pv6 w6 hown6 hgrow6 _ hloc6; obtain ⟨Ap6, cp6, hpv6, hcp6⟩ := own_sl hown6; subst hpv6)
      have hz6 : w2.heap.size + 1 ≤ w6.heap.size := (by have := hgrow6.size; simpa using this);have hk6 : ∀ k, k < w2.heap.size → (Value.slice Ap ms.length cp).ownBlock ≠ some k → w6.heap[k]? = w2.heap[k]? := fun k hk hne => (hgrow6.block k (by simp; omega) (fun e => hne e.symm)).trans (RowKit.Below.heap_alloc _ _ _ hk);have HB6 : Hid (Blk w6 w.heap.size 160 (rdr (some ⟨b, o, none⟩) e.length c (a + 1 + (u).length))) := (hk6 w.heap.size (by omega) (fun h => by have := (hpb _ h).1; omega)).trans (HB1.out.below hb2 (by omega));have HO6 : Hid (w6.ownsRow (w.heap.size + 1) 22 1 (.slice Ap6 (ms.length + 1) cp6) (ms ++ [(⟨A2, c2, u⟩ : NsM)]).length (flatG NsM.cells (ms ++ [(⟨A2, c2, u⟩ : NsM)]))) := by
       show World.ownsRow _ _ _ _ _ _ _;rw [List.length_append, ns_snoc]; exact hown6
      have HON6 : Hid (w6.ownsRow (w.heap.size + 1) 9 1 (.slice An2 (ns.length + 1) cn2) (ns ++ [f.s.toList]).length ((ns ++ [f.s.toList]).map encStr)) := HON3.out.kept hgrow6 (by
       cases hh : (Value.slice An2 (ns.length + 1) cn2).ownBlock with
       | none => exact .inl rfl
       | some q => exact .inr (fun h => HDX.out q h.symm hh))
      have HD6 : Hid (∀ q, (Value.slice Ap6 (ms.length + 1) cp6).ownBlock = some q → (Value.slice An2 (ns.length + 1) cn2).ownBlock ≠ some q) := fun q hq h => by
       rcases hloc6 with h2 | h2
       · exact HDX.out q (h2 ▸ hq) h
       · rw [h2] at hq; injection hq with hq; have := (hnbX q h).2; simp at hq; omega
      have hg' : ∀ q, q < w2.heap.size → G3 w.heap.size (.slice Ap6 (ms.length + 1) cp6) (.slice An2 (ns.length + 1) cn2) q → G3 w.heap.size (.slice Ap ms.length cp) (.slice An2 (ns.length + 1) cn2) q := fun q hq h => by
       rcases h with h | h | h
       · exact .inl h
       · rcases hloc6 with h2 | h2
         · exact .inr (.inl (h2 ▸ h))
         · rw [h2] at h; injection h with h; simp at h; omega
       · exact .inr (.inr h)
      have HF6 : Hid (∀ y ∈ ms ++ [(⟨A2, c2, u⟩ : NsM)], NsFar (G3 w.heap.size (.slice Ap6 (ms.length + 1) cp6) (.slice An2 (ns.length + 1) cn2)) w6 y ∧ ∀ b o, y.A = some ⟨b, o, none⟩ → y.e ≠ [] → w.heap.size ≤ b) := fun y hy => by
       rcases List.mem_append.1 hy with hy | hy
       · exact ⟨(((HFX.out y hy).1.turn hzx1 (fun k hk hg => hg12.block k hk (fun h => by injection h with h; exact hg (.inl h))) (fun _ _ h => h)).turn hzx2 (fun k hk _ => hb2.block k hk) (fun _ _ h => h)).turn (by omega) (fun k hk hg => hk6 k hk (fun h => hg (.inr (.inl h)))) hg', (HFX.out y hy).2⟩
       · simp at hy; subst hy;exact ⟨NsFar.turn (w := w2) ⟨HFR.out, H2M.out, hm2⟩ (by omega) (fun k hk hg => hk6 k hk (fun h => hg (.inr (.inl h)))) hg', HNEW.out⟩
      have HM6 : Hid ((ms ++ [(⟨A2, c2, u⟩ : NsM)]).map NsM.e = (ps.take (j + 1)).map (cont x)) := by
       show _ = _;rw [List.map_append, HM.out, List.take_add_one, HP.out, List.map_append];simp [HCX.out]
      have hw6 : RowKit.Below w.heap.size w w6 := by
       have h1 : RowKit.Below w.heap.size w w1 := hwX2.grown hg12 hwX2.size (fun q hq => by injection hq with hq; omega);have h2 : RowKit.Below w.heap.size w w2 := h1.trans (hb2.mono h1.size);exact RowKit.Below.grown (w := w2.alloc (.cells #[.slice A2 (u).length c2] 22)) (by have := h2.size; (repeat (first | assumption | exact Below.refl _ _ | apply Below.drew | apply below_drewN | (refine Below.alloc ?_ (by first | exact Nat.le_refl _ | omega | (simp; done) | (simp; omega)) _)))) hgrow6 (by simp; omega) (fun q hq => by have := (hpb q hq).1; omega)
      clear hown6 hgrow6 hloc6 hg' hk6;go_wp2_with fail
      exact ⟨⟨j + 1, a + 1 + (u).length, ms ++ [⟨A2, c2, u⟩], ns ++ [f.s.toList], by go_num, by omega, by first | omega | (simp; omega), by first | omega | (simp; omega), HAX, HM6, HNX, HO6, HON6, HD6, HF6, HB6, hw6⟩, by simp [intOf]; omega⟩
    · have t6 : (x.op == 6) = false := (by simp [h6]);have h5 : x.op = 5 := (by rcases hop with h | h; exact h; exact absurd h h6);have hu := H5.out h5 p hpm;obtain ⟨g1, g2⟩ := HPA.out j p hp hu;rw [← HA.out] at g1 g2 hpe;have HG1 := Lib.hid g1;have HG2 := Lib.hid g2;have H6E := Lib.hid h6;obtain ⟨y0, r0, hpr, _⟩ := hu.ne;have hul : p.length + a ≤ e.length ∧ 0 < p.length := ⟨by omega, by rw [hpr]; simp⟩;have hae : a < e.length := (by omega);clear h6 g1 g2 hp hpm hu hpe hpr h5;obtain ⟨wX, hwX⟩ : ∃ wX, wr = wX := ⟨_, rfl⟩;subst hwX;have HBX := HB;have HOX := HO;have HONX := HON;have HFX := HF;have HDX := HDJ;have hwX2 := hbr;have hpb : ∀ q, (Value.slice Ap ms.length cp).ownBlock = some q → w.heap.size + 1 ≤ q ∧ q < wr.heap.size := fun q hq => own_lt HO.out hq;have HNX : Hid (ns = if x.op = 6 then namesOf (ps.take (j + 1)) else []) := by
       show _ = _;have e1 := HN.out;rw [if_neg H6E.out] at e1 ⊢;exact e1
      have HCX : Hid (cont x p = p) := (by show _ = _; unfold cont; rw [if_neg H6E.out]);have HAX : Hid (a + p.length = 1 + (ps.take (j + 1)).flatten.length) := (by show _ = _; rw [flat_step HP.out, HA.out]; omega);have HQL : Hid ((p).length ≤ 200) := (by show _ ≤ _; omega);have HPR := Lib.hid ((HPO.out (a) wr w.heap.size (some ⟨b, o, none⟩) c (by omega) (by omega) hc hcm HOK.out HBX.out (HS.out.below hwX2)).1 _ HG1.out);rw [HG2.out] at HPR;have hzW : w.heap.size < wr.heap.size := HBX.out.lt;clear HBX;go_wp2_with fail
      refine HPR.out.mono ?_;rintro r w1 ⟨A1, c1, rfl, hs1, hb1, ho1⟩;have hzx1 := ho1.size;have HCL := Lib.hid (clone_nodes (p) A1 c1 w1 (hs1.more (by omega)) HQL.out);have HB1 := Lib.hid hb1;clear hs1 hb1;go_wp2_with fail
      refine HCL.out.mono ?_;rintro r w2 ⟨A2, c2, rfl, hl2, hm2, hfar2, hb2⟩;have hzx2 := hb2.size;have hg12 := grown_of_only ho1;have HO3 : Hid ((w2.alloc (.cells #[.slice A2 (p).length c2] 22)).ownsRow (w.heap.size + 1) 22 1 (.slice Ap ms.length cp) ms.length (flatG NsM.cells ms)) :=
       own_keep (own_keep (HOX.out.kept hg12 (.inr (fun h => by have := (hpb _ h).1; omega))) hb2) (by (repeat (first | assumption | exact Below.refl _ _ | apply Below.drew | apply below_drewN | (refine Below.alloc ?_ (by first | exact Nat.le_refl _ | omega | (simp; done) | (simp; omega)) _))))
      have hnbX : ∀ q, (Value.slice An ns.length cn).ownBlock = some q → w.heap.size + 1 ≤ q ∧ q < wr.heap.size := fun q hq => own_lt HONX.out hq;have HON3 : Hid ((w2.alloc (.cells #[.slice A2 (p).length c2] 22)).ownsRow (w.heap.size + 1) 9 1 (.slice An ns.length cn) (ns).length ((ns).map encStr)) :=
       own_keep (own_keep (HONX.out.kept hg12 (.inr (fun h => by have := (hnbX _ h).1; omega))) hb2) (by (repeat (first | assumption | exact Below.refl _ _ | apply Below.drew | apply below_drewN | (refine Below.alloc ?_ (by first | exact Nat.le_refl _ | omega | (simp; done) | (simp; omega)) _))))
      have HFR := Lib.hid (hfar2 (G3 w.heap.size (.slice Ap ms.length cp) (.slice An ns.length cn)) (fun q hq => by
       rcases hq with h | h | h
       · omega
       · have := (hpb q h).2; omega
       · have := (hnbX q h).2; omega))
      have HNEW : Hid (∀ b o, A2 = some ⟨b, o, none⟩ → (p) ≠ [] → w.heap.size ≤ b) := fun b' o' h hne => by
       obtain ⟨b3, o3, e3, _, h3, _⟩ := hfar2 (fun b => b < w.heap.size) (fun b hb => by omega) hne;rw [h] at e3; injection e3 with e3; injection e3 with e3 _; omega
      have H2M := Lib.hid hl2;clear hfar2 ho1 hl2;go_wp2_with (at_builtin; refine wpList_append_own_at _ rfl (.tmp 37) (.tmp 41) 152 rfl (w.heap.size + 1) 22 i0 _ 1 24 Tryz.underlying152 hi hz0 hz1 hz2 rfl (by omega) _ ms.length (flatG NsM.cells ms) rfl HO3.out ⟨w2.heap.size, 0, none⟩ 1 1 [.slice A2 (p).length c2] rfl rfl (cell_one_new _ _ _) (by simp [Value.oneCell']) (by unfold maxLen; omega) (by omega) (by simp; omega) ?_; intro pv6 w6 hown6 hgrow6 _ hloc6; obtain ⟨Ap6, cp6, hpv6, hcp6⟩ := own_sl hown6; subst hpv6)
      have hz6 : w2.heap.size + 1 ≤ w6.heap.size := (by have := hgrow6.size; simpa using this);have hk6 : ∀ k, k < w2.heap.size → (Value.slice Ap ms.length cp).ownBlock ≠ some k → w6.heap[k]? = w2.heap[k]? := fun k hk hne => (hgrow6.block k (by simp; omega) (fun e => hne e.symm)).trans (RowKit.Below.heap_alloc _ _ _ hk);have HB6 : Hid (Blk w6 w.heap.size 160 (rdr (some ⟨b, o, none⟩) e.length c (a + (p).length))) := (hk6 w.heap.size (by omega) (fun h => by have := (hpb _ h).1; omega)).trans (HB1.out.below hb2 (by omega));have HO6 : Hid (w6.ownsRow (w.heap.size + 1) 22 1 (.slice Ap6 (ms.length + 1) cp6) (ms ++ [(⟨A2, c2, p⟩ : NsM)]).length (flatG NsM.cells (ms ++ [(⟨A2, c2, p⟩ : NsM)]))) := by
       show World.ownsRow _ _ _ _ _ _ _;rw [List.length_append, ns_snoc]; exact hown6
      have HON6 : Hid (w6.ownsRow (w.heap.size + 1) 9 1 (.slice An ns.length cn) (ns).length ((ns).map encStr)) := HON3.out.kept hgrow6 (by
       cases hh : (Value.slice An ns.length cn).ownBlock with
       | none => exact .inl rfl
       | some q => exact .inr (fun h => HDX.out q h.symm hh))
      have HD6 : Hid (∀ q, (Value.slice Ap6 (ms.length + 1) cp6).ownBlock = some q → (Value.slice An ns.length cn).ownBlock ≠ some q) := fun q hq h => by
       rcases hloc6 with h2 | h2
       · exact HDX.out q (h2 ▸ hq) h
       · rw [h2] at hq; injection hq with hq; have := (hnbX q h).2; simp at hq; omega
      have hg' : ∀ q, q < w2.heap.size → G3 w.heap.size (.slice Ap6 (ms.length + 1) cp6) (.slice An ns.length cn) q → G3 w.heap.size (.slice Ap ms.length cp) (.slice An ns.length cn) q := fun q hq h => by
       rcases h with h | h | h
       · exact .inl h
       · rcases hloc6 with h2 | h2
         · exact .inr (.inl (h2 ▸ h))
         · rw [h2] at h; injection h with h; simp at h; omega
       · exact .inr (.inr h)
      have HF6 : Hid (∀ y ∈ ms ++ [(⟨A2, c2, p⟩ : NsM)], NsFar (G3 w.heap.size (.slice Ap6 (ms.length + 1) cp6) (.slice An ns.length cn)) w6 y ∧ ∀ b o, y.A = some ⟨b, o, none⟩ → y.e ≠ [] → w.heap.size ≤ b) := fun y hy => by
       rcases List.mem_append.1 hy with hy | hy
       · exact ⟨(((HFX.out y hy).1.turn hzx1 (fun k hk hg => hg12.block k hk (fun h => by injection h with h; exact hg (.inl h))) (fun _ _ h => h)).turn hzx2 (fun k hk _ => hb2.block k hk) (fun _ _ h => h)).turn (by omega) (fun k hk hg => hk6 k hk (fun h => hg (.inr (.inl h)))) hg', (HFX.out y hy).2⟩
       · simp at hy; subst hy;exact ⟨NsFar.turn (w := w2) ⟨HFR.out, H2M.out, hm2⟩ (by omega) (fun k hk hg => hk6 k hk (fun h => hg (.inr (.inl h)))) hg', HNEW.out⟩
      have HM6 : Hid ((ms ++ [(⟨A2, c2, p⟩ : NsM)]).map NsM.e = (ps.take (j + 1)).map (cont x)) := by
       show _ = _;rw [List.map_append, HM.out, List.take_add_one, HP.out, List.map_append];simp [HCX.out]
      have hw6 : RowKit.Below w.heap.size w w6 := by
       have h1 : RowKit.Below w.heap.size w w1 := hwX2.grown hg12 hwX2.size (fun q hq => by injection hq with hq; omega);have h2 : RowKit.Below w.heap.size w w2 := h1.trans (hb2.mono h1.size);exact RowKit.Below.grown (w := w2.alloc (.cells #[.slice A2 (p).length c2] 22)) (by have := h2.size; (repeat (first | assumption | exact Below.refl _ _ | apply Below.drew | apply below_drewN | (refine Below.alloc ?_ (by first | exact Nat.le_refl _ | omega | (simp; done) | (simp; omega)) _)))) hgrow6 (by simp; omega) (fun q hq => by have := (hpb q hq).1; omega)
      clear hown6 hgrow6 hloc6 hg' hk6;go_wp2_with fail
      exact ⟨⟨j + 1, a + (p).length, ms ++ [⟨A2, c2, p⟩], ns, by go_num, by omega, by first | omega | (simp; omega), by first | omega | (simp; omega), HAX, HM6, HNX, HO6, HON6, HD6, HF6, HB6, hw6⟩, by simp [intOf]; omega⟩
  · have tl : decide ((j : Int) < (ps.length : Int)) = false := (by simp; omega);obtain rfl : j = ps.length := (by omega);obtain ⟨Ap, cp, hpv, hcp⟩ := own_sl HO.out;subst hpv;have hpm : cp ≤ 9223372036854775807 := by
     rcases HO.out.2 with ⟨h1, _⟩ | ⟨g, cap, cur, h1, _, _, _, h2, _⟩
     · injection h1 with _ _ h1; omega
     · injection h1 with _ _ h1; unfold maxLen at h2; omega
    have hpn : ∀ b o, Ap = some ⟨b, o, none⟩ → w.heap.size ≤ b := fun b o h => by
     subst h;have := (own_lt HO.out (b := b) rfl).1;omega
    obtain ⟨-, Ap', cp', hpv', -, -, hps'⟩ := own_formG ns_ok HO.out;injection hpv' with e1 e2 e3
    subst e1 e3;obtain ⟨An, cn, hnv, hss⟩ := own_strs HON.out;subst hnv;have HPS := Lib.hid hps';have HSS := Lib.hid hss;have HPN := Lib.hid hpn;clear hps' hss hpn e2;go_wp2_with fail
    go_ret2
    refine ⟨Ap, cp, An, cn, ms, ?_, ?_, hcp, hpm, ⟨HPS.out, fun y hy => (HF.out y hy).1.good⟩, ?_, hbr, fun y hy => (HF.out y hy).2, HPN.out⟩
    · have := HN.out;rw [List.take_of_length_le (Nat.le_refl _), HNS.out] at this;rw [← this]; rfl
    · have := HM.out;rw [List.take_of_length_le (Nat.le_refl _)] at this;exact this
    · have := HN.out;rw [List.take_of_length_le (Nat.le_refl _), HNS.out] at this;rw [← this]; exact HSS.out
end Go.Proofs.YtpheiojmcafolaaGreatDoor
namespace Go.Proofs.YtpheiojmcafolaaGreatDoor
open Go.RowKit Go.Sort
def bsL (l : List UInt8) : ByteArray := ⟨l.toArray⟩
theorem bsL_toList (l : List UInt8) : (bsL l).toList = l := by unfold bsL; rw [ByteArray.toList_eq]
theorem bsL_of (s : ByteArray) : bsL s.toList = s := by unfold bsL; rw [ByteArray.toList_eq]
def idxL (ss : List (List UInt8)) (t : List UInt8) : Int := if t ∈ ss then (ss.idxOf t : Int) else -1
theorem getD_bs (ss : List (List UInt8)) (j : Nat) : (ss.map bsL).getD j ByteArray.empty = bsL (ss.getD j []) := by
 rw [List.getD_eq_getElem?_getD, List.getD_eq_getElem?_getD, List.getElem?_map];cases ss[j]? <;> rfl
theorem idxOfS_L (ss : List (List UInt8)) (s : ByteArray) : Lib.idxOfS (ss.map bsL) s = idxL ss s.toList := by
 unfold idxL;have hlen : (ss.map bsL).length = ss.length := List.length_map _;by_cases h : s.toList ∈ ss
 · rw [if_pos h];have hk := List.idxOf_lt_length_iff.2 h;have hg := List.getElem_idxOf hk;have := Lib.idxOfS_hit (ss.map bsL) ss.length (ss.idxOf s.toList) s hk (by omega) (by
    rw [getD_bs, List.getD_eq_getElem?_getD, List.getElem?_eq_getElem hk, hg]; exact bsL_of s) (by
    intro j hj hx;rw [getD_bs, List.getD_eq_getElem?_getD, List.getElem?_eq_getElem (by omega)] at hx;have hx' : bsL ss[j] = s := hx;have hx2 : ss[j] = s.toList := (by have := congrArg ByteArray.toList hx'; rwa [bsL_toList] at this);have hne := List.not_of_lt_findIdx (p := (· == s.toList)) (xs := ss) hj;rw [hx2] at hne;simp at hne)
   rw [List.take_of_length_le (by omega)] at this;exact this
 · rw [if_neg h];have := Lib.idxOfS_miss (ss.map bsL) ss.length s (by
    intro j hj hx;rw [getD_bs, List.getD_eq_getElem?_getD, List.getElem?_eq_getElem hj] at hx;have hx' : bsL ss[j] = s := hx;apply h;rw [← hx', bsL_toList];exact List.getElem_mem hj)
   rw [List.take_of_length_le (by omega)] at this;exact this
theorem strs_cells {w : World} {B b o : Nat} {ss : List (List UInt8)} (h : StrSl w B (some ⟨b, o, none⟩) ss) : ∀ j, j < (ss.map bsL).length → w.cell? ⟨b, o + j, none⟩ = some (.string ((ss.map bsL).getD j ByteArray.empty)) := by
 intro j hj;rw [List.length_map] at hj;obtain ⟨b', o', e, _, hc⟩ := h.at_ hj;injection e with e; injection e with e1 e2; subst e1 e2
 rw [hc j _ (List.getElem?_eq_getElem hj), getD_bs, List.getD_eq_getElem?_getD, List.getElem?_eq_getElem hj]; rfl
theorem str_Index (ss : List (List UInt8)) (A : Option Addr) (c : Nat) (s : ByteArray) (w : World) (hs : StrSl w w.heap.size A ss) (hl : ss.length ≤ 9223372036854775807) :
 Calls Tryz.prog 104 #[.slice A ss.length c, .string s] w fun e w' => e = .returned (.int .i64 (idxL ss s.toList)) ∧ w = w' := by
 by_cases h0 : ss = []
 · subst h0;refine (Tryz.slices_Index_string_empty A c s w).mono ?_;rintro e w' ⟨rfl, rfl⟩;exact ⟨rfl, rfl⟩
 · have hpos : 0 < ss.length := List.length_pos_iff.2 h0;obtain ⟨b, o, rfl, hb, hc⟩ := hs.at_ (i := 0) hpos;refine (Tryz.slices_Index_string b o ss.length c (ss.map bsL) s w (by simp) hl (strs_cells hs)).mono ?_;rintro e w' ⟨rfl, rfl⟩;refine ⟨?_, rfl⟩;rw [List.take_of_length_le (by simp), idxOfS_L]
end Go.Proofs.YtpheiojmcafolaaGreatDoor
namespace Go.Proofs.YtpheiojmcafolaaGreatDoor
open Go.RowKit Go.Sort
section
variable {α : Type} [Inhabited α] {enc : α → Value}
theorem holds_blockG {w : World} {g : Nat} {cur : Array Value} {e : TypeId} {ss : List α} (hb : w.heap[g]? = some (.cells cur e (0, 0))) (ht : cur.toList.take ss.length = ss.map enc) : Holds enc w g 0 ss.toArray := by
 intro j hj;have hj' : j < ss.length := by simpa using hj
 refine ⟨?_, by simp [World.frozen?, hb]⟩;have h1 : (cur.toList.take ss.length)[j]? = (ss.map enc)[j]? := by rw [ht]
 rw [List.getElem?_take_of_lt hj'] at h1;simp only [World.cell?, hb, Nat.zero_add];simp only [Option.isSome_none, Bool.false_eq_true, if_false];rw [← Array.getElem?_toList, h1];simp [hj']
theorem heap_sortedG {w : World} {g n : Nat} {os : Array Obj} {cur : Array Value} {e : TypeId} {fr : Nat × Nat} (d : Array α) (hb : w.heap[g]? = some (.cells cur e fr)) :
 (sortWorld enc w g 0 n d os).heap[g]? = some (.cells (putCells enc 0 d cur) e fr) := by
 have hg : g < w.heap.size := (Array.getElem?_eq_some_iff.1 hb).1;unfold sortWorld;rw [heap_grow_old _ _ (by simpa using hg)];simp [putRow, mapBlock, Sort.ahead, Array.getElem?_modify, hb, onCells]
theorem grownBy_sortedG {w : World} {g n : Nat} {os : Array Obj} (d : Array α) : w.grownBy (sortWorld enc w g 0 n d os) (some g) := by
 refine ⟨rfl, rfl, rfl, by simp [sortWorld], fun k hk hne => ?_⟩;unfold sortWorld;rw [heap_grow_old _ _ (by simpa using hk)];have : g ≠ k := fun e => hne (by rw [e]);simp [putRow, mapBlock, Sort.ahead, Array.getElem?_modify, this]
theorem take_putCellsG (cur : Array Value) (ts : List α) (h : ts.length ≤ cur.size) : (putCells enc 0 ts.toArray cur).toList.take ts.length = ts.map enc := by
 apply List.ext_getElem?;intro j;by_cases hj : j < ts.length
 · rw [List.getElem?_take_of_lt hj, Array.getElem?_toList];simp [putCells, hj, show j < cur.size by omega]
 · rw [List.getElem?_take_eq_none (by omega), List.getElem?_eq_none (by simp; omega)]
theorem ownsRow_sortedG {w : World} {base g cap n : Nat} {e : TypeId} {os : Array Obj} {cur : Array Value} {ts : List α} {m : Nat} (hl : ts.length = m) (hbase : base ≤ g) (hb : w.heap[g]? = some (.cells cur e (0, 0)))
 (h1 : m ≤ cap) (h2 : cap ≤ maxLen) (h3 : cur.size = cap * 1) :
 (sortWorld enc w g 0 n ts.toArray os).ownsRow base e 1 (.slice (some ⟨g, 0, none⟩) m cap) m (ts.map enc) :=
 ⟨by simp [hl], .inr ⟨g, cap, _, rfl, hbase, heap_sortedG _ hb, h1, h2, by simp [putCells, h3], by rw [Nat.mul_one, ← hl]; exact take_putCellsG cur ts (by omega)⟩⟩
end
def encN (x : NsM) : Value := .slice x.A x.e.length x.c
theorem flat_encN (xs : List NsM) : flatG NsM.cells xs = xs.map encN := by
 induction xs with
 | nil => rfl
 | cons x r ih => show NsM.cells x ++ flatG NsM.cells r = _; rw [ih]; rfl
theorem lift_sub {α : Type} {P : α → Prop} : ∀ (xs : List α), (∀ x ∈ xs, P x) → ∃ L : List {x : α // P x}, L.map Subtype.val = xs
 | [], _ => ⟨[], rfl⟩
 | x :: xs, h => by
  obtain ⟨L, hL⟩ := lift_sub xs fun y hy => h y (by simp [hy]);exact ⟨⟨x, h x (by simp)⟩ :: L, by simp [hL]⟩
theorem sort_lists {sf cf : Nat} {ρ : Shelf.Ren} (L : SlLaysF.n6 Tryz.prog ρ) (hsf : ρ.f 6 = sf) (eg : ∀ args w, (callFunc cf args).run Tryz.prog w = .ok (.enter cf args) w) (cmp : List Nd → List Nd → Int)
 {w : World} {base : Nat} {v : Value} {ms : List NsM} (h : w.ownsRow base 22 1 v ms.length (flatG NsM.cells ms)) (hl : ms.length < 4611686018427387904) (Q : NsM → Prop) (hQ : ∀ y ∈ ms, Q y) (hof : ∀ y ∈ ms, NsOff w v.ownBlock y)
 (hO : SWO (ltOf fun x y : {x : NsM // Q x} => cmp x.1.e y.1.e))
 (hcmp : ∀ (x y : NsM) (W : World), Q x → Q y → NsGood W W.heap.size x → NsGood W W.heap.size y → Calls Tryz.prog cf #[.slice x.A x.e.length x.c, .slice y.A y.e.length y.c] W fun r w' => r = .returned (.int .i64 (cmp x.e y.e)) ∧ ∃ q os', w' = grow (W.drewN q) os') :
 Calls Tryz.prog sf #[v, .func (.func cf) #[] #[]] w fun r w' => r = .returned (.tuple #[]) ∧ ∃ ds : List NsM, ds.Perm ms ∧ (∀ (i j : Nat) (a b : NsM), ds[i]? = some a → ds[j]? = some b → i < j → ¬ cmp b.e a.e < 0) ∧
  w'.ownsRow base 22 1 v ms.length (flatG NsM.cells ds) ∧ (∀ y ∈ ds, NsOff w' v.ownBlock y) ∧ w.grownBy w' v.ownBlock := by
 subst hsf;rcases h.2 with ⟨hv, h0⟩ | ⟨g, cap, cur, hv, hbase, hb, h1, h2, h3, h4⟩
 · subst hv;refine (AnyF.slices_SortFunc_none { L with } none 0 _ w).mono ?_;rintro r w' ⟨rfl, rfl⟩;obtain rfl : ms = [] := List.eq_nil_of_length_eq_zero h0;exact ⟨rfl, [], .refl _, by simp, World.ownsRow_nil _ base 22 1, by simp, World.grownBy.refl _ _⟩
 · subst hv;have hg : g < w.heap.size := (Array.getElem?_eq_some_iff.1 hb).1;cases hms : ms with
   | nil =>
    subst hms;refine (AnyF.slices_SortFunc_none { L with } (some ⟨g, 0, none⟩) cap _ w).mono ?_;rintro r w' ⟨rfl, rfl⟩;exact ⟨rfl, [], .refl _, by simp, h, by simp, World.grownBy.refl _ _⟩
   | cons m0 mr =>
    rw [← hms];have hm0 : m0 ∈ ms := (by rw [hms]; simp);obtain ⟨Lx, hLx⟩ := lift_sub (P := fun x => Q x ∧ NsOff w (some g) x) ms (fun y hy => ⟨hQ y hy, hof y hy⟩);haveI : Inhabited {x : NsM // Q x ∧ NsOff w (some g) x} := ⟨⟨m0, hQ _ hm0, hof _ hm0⟩⟩
    obtain ⟨enc, henc⟩ : ∃ enc : {x : NsM // Q x ∧ NsOff w (some g) x} → Value, enc = fun x => encN x.1 := ⟨_, rfl⟩;have hlen : Lx.length = ms.length := (by rw [← hLx, List.length_map]);have hmap : Lx.map enc = flatG NsM.cells ms := (by rw [flat_encN, ← hLx, List.map_map, henc]; rfl);have hH : Holds enc w g 0 Lx.toArray := holds_blockG hb (by rw [hmap, hlen]; simpa using h4);have hO' : SWO (ltOf fun x y : {x : NsM // Q x ∧ NsOff w (some g) x} => cmp x.1.e y.1.e) :=
     ⟨fun x => hO.irrefl ⟨x.1, x.2.1⟩, fun x y z => hO.trans ⟨x.1, x.2.1⟩ ⟨y.1, y.2.1⟩ ⟨z.1, z.2.1⟩, fun x y z => hO.ntrans ⟨x.1, x.2.1⟩ ⟨y.1, y.2.1⟩ ⟨z.1, z.2.1⟩⟩
    have hC : CmpLays1 Tryz.prog cf #[] enc (fun x y => cmp x.1.e y.1.e) g 0 Lx.toArray.size w := by
     intro m os dk hs x y;rw [henc];have hgr : w.grownBy (sortWorld enc w g 0 m dk os) (some g) := grownBy_sortedG dk;have gx := (x.2.2.grown hgr (.inl rfl)).good;have gy := (y.2.2.grown hgr (.inl rfl)).good;rw [henc] at gx gy;exact hcmp x.1 y.1 _ x.2.1 y.2.1 gx gy
    have hcon := Any.slices_SortFunc L enc (fun x => by rw [henc]; rfl) (fun x y => cmp x.1.e y.1.e) hO' cf #[] g 0 cap Lx.toArray w eg hC hH hg (by simpa [hlen] using hl);rw [List.size_toArray, hlen] at hcon;refine hcon.mono ?_;rintro r w' ⟨rfl, d', n, os, hp, hs, rfl⟩;have hd : d'.size = ms.length := (by rw [hp.1]; simpa using hlen);have hperm : d'.toList.Perm Lx := by
     have := hp.2.2;rw [show d'.extract 0 ms.length = d' from by rw [← hd]; simp, show Lx.toArray.extract 0 ms.length = Lx.toArray from by rw [← hlen]; simp] at this;simpa using this
    refine ⟨rfl, d'.toList.map Subtype.val, (hperm.map _).trans (by rw [hLx]), ?_, ?_, ?_, grownBy_sortedG d'⟩
    · intro i j a b ha hb' hij;rw [List.getElem?_map] at ha hb';obtain ⟨a', ha1, rfl⟩ := Option.map_eq_some_iff.1 ha;obtain ⟨b', hb1, rfl⟩ := Option.map_eq_some_iff.1 hb';obtain ⟨ki, ei⟩ := List.getElem?_eq_some_iff.1 ha1;obtain ⟨kj, ej⟩ := List.getElem?_eq_some_iff.1 hb1;simp only [Array.length_toList] at ki kj;have := hs i j (Nat.zero_le _) hij (by omega);rw [getElem!_pos d' i ki, getElem!_pos d' j kj] at this;simp only [Array.getElem_toList] at ei ej;rw [ei, ej] at this;unfold ltOf at this;simpa using this
    · have := ownsRow_sortedG (enc := enc) (n := n) (os := os) (ts := d'.toList) (m := ms.length) (by simpa using hd) hbase hb h1 h2 h3;rw [flat_encN, List.map_map];rw [henc] at this ⊢;simpa using this
    · intro y hy;obtain ⟨y', _, rfl⟩ := List.mem_map.1 hy;exact y'.2.2.grown (grownBy_sortedG d') (.inl rfl)
end Go.Proofs.YtpheiojmcafolaaGreatDoor
namespace Go.Proofs
open Go.Shelf
def Tryz.growN_ren : Go.Shelf.Ren := ⟨fun | 4 => 167 | n => n, fun | 22 => 22 | 25 => 37 | 3 => 3 | 4 => 4 | 9 => 9 | 20 => 20 | 0 => 0 | n => n, fun | n => n⟩
theorem Tryz.growN : Go.Proofs.Lays8.n4 Tryz.prog Tryz.growN_ren := {
 mixed := by kernel_rfl
 f4 := ⟨Tryz.f167.name, by decide, Tryz.func167.trans (congrArg some (by kernel_rfl))⟩
 t0 := Tryz.underlying0
 a0 := Tryz.isAgg0
 z0 := Tryz.sizeOf0
 v0 := Tryz.zeroValue0
 t3 := Tryz.underlying3
 a3 := Tryz.isAgg3
 z3 := Tryz.sizeOf3
 v3 := Tryz.zeroValue3
 t4 := Tryz.underlying4
 a4 := Tryz.isAgg4
 z4 := Tryz.sizeOf4
 v4 := Tryz.zeroValue4
 t9 := Tryz.underlying9
 a9 := Tryz.isAgg9
 z9 := Tryz.sizeOf9
 v9 := Tryz.zeroValue9
 t20 := Tryz.underlying20
 a20 := Tryz.isAgg20
 z20 := Tryz.sizeOf20
 v20 := Tryz.zeroValue20
 t22 := Tryz.underlying22
 a22 := Tryz.isAgg22
 z22 := Tryz.sizeOf22
 v22 := Tryz.zeroValue22 }
def Tryz.sortL_ren : Go.Shelf.Ren := ⟨fun | 6 => 132 | 15 => 162 | 14 => 161 | 28 => 192 | 29 => 193 | 20 => 184 | 21 => 185 | 22 => 186 | 23 => 187 | 24 => 188 | 25 => 189 | 26 => 190 | 27 => 191 | 46 => 208 | 47 => 209 | 48 => 210 | 49 => 211 | 50 => 212 | 57 => 221 | n => n, fun | 22 => 152 | 24 => 22 | 25 => 190 | 3 => 3 | 39 => 243 | 0 => 0 | 53 => 225 | 55 => 219 | 4 => 4 | 46 => 276 | 45 => 275 | 50 => 168 | 5 => 5 | 9 => 9 | 66 => 312 | 70 => 316 | 76 => 334 | 77 => 335 | n => n, fun | n => n⟩
theorem Tryz.sortL : Go.Proofs.SlLaysF.n6 Tryz.prog Tryz.sortL_ren := {
 mixed := by kernel_rfl
 f6 := ⟨Tryz.f132.name, by decide, Tryz.func132.trans (congrArg some (by kernel_rfl))⟩
 f14 := ⟨Tryz.f161.name, by decide, Tryz.func161.trans (congrArg some (by kernel_rfl))⟩
 f15 := Tryz.func162.trans (congrArg some (by kernel_rfl))
 f20 := ⟨Tryz.f184.name, by decide, Tryz.func184.trans (congrArg some (by kernel_rfl))⟩
 f21 := ⟨Tryz.f185.name, by decide, Tryz.func185.trans (congrArg some (by kernel_rfl))⟩
 f22 := ⟨Tryz.f186.name, by decide, Tryz.func186.trans (congrArg some (by kernel_rfl))⟩
 f23 := ⟨Tryz.f187.name, by decide, Tryz.func187.trans (congrArg some (by kernel_rfl))⟩
 f24 := ⟨Tryz.f188.name, by decide, Tryz.func188.trans (congrArg some (by kernel_rfl))⟩
 f25 := ⟨Tryz.f189.name, by decide, Tryz.func189.trans (congrArg some (by kernel_rfl))⟩
 f26 := ⟨Tryz.f190.name, by decide, Tryz.func190.trans (congrArg some (by kernel_rfl))⟩
 f27 := ⟨Tryz.f191.name, by decide, Tryz.func191.trans (congrArg some (by kernel_rfl))⟩
 f28 := Tryz.func192.trans (congrArg some (by kernel_rfl))
 f29 := Tryz.func193.trans (congrArg some (by kernel_rfl))
 f46 := ⟨Tryz.f208.name, by decide, Tryz.func208.trans (congrArg some (by kernel_rfl))⟩
 f47 := Tryz.func209.trans (congrArg some (by kernel_rfl))
 f48 := Tryz.func210.trans (congrArg some (by kernel_rfl))
 f49 := ⟨Tryz.f211.name, by decide, Tryz.func211.trans (congrArg some (by kernel_rfl))⟩
 f50 := ⟨Tryz.f212.name, by decide, Tryz.func212.trans (congrArg some (by kernel_rfl))⟩
 f57 := ⟨Tryz.f221.name, by decide, Tryz.func221.trans (congrArg some (by kernel_rfl))⟩
 t0 := Tryz.underlying0
 a0 := Tryz.isAgg0
 z0 := Tryz.sizeOf0
 v0 := Tryz.zeroValue0
 t3 := Tryz.underlying3
 a3 := Tryz.isAgg3
 z3 := Tryz.sizeOf3
 v3 := Tryz.zeroValue3
 t4 := Tryz.underlying4
 a4 := Tryz.isAgg4
 z4 := Tryz.sizeOf4
 v4 := Tryz.zeroValue4
 t5 := Tryz.underlying5
 a5 := Tryz.isAgg5
 z5 := Tryz.sizeOf5
 v5 := Tryz.zeroValue5
 t9 := Tryz.underlying9
 a9 := Tryz.isAgg9
 z9 := Tryz.sizeOf9
 v9 := Tryz.zeroValue9
 t22 := Tryz.underlying152
 a22 := Tryz.isAgg152
 z22 := Tryz.sizeOf152
 v22 := Tryz.zeroValue152
 a24 := Tryz.isAgg22
 z24 := Tryz.sizeOf22
 t25 := Tryz.underlying190
 a25 := Tryz.isAgg190
 z25 := Tryz.sizeOf190
 v25 := Tryz.zeroValue190
 t39 := Tryz.underlying243
 a39 := Tryz.isAgg243
 z39 := Tryz.sizeOf243
 v39 := Tryz.zeroValue243
 t45 := Tryz.underlying275
 a45 := Tryz.isAgg275
 z45 := Tryz.sizeOf275
 v45 := Tryz.zeroValue275
 t46 := Tryz.underlying276
 a46 := Tryz.isAgg276
 z46 := Tryz.sizeOf276
 v46 := Tryz.zeroValue276
 t50 := Tryz.underlying168
 a50 := Tryz.isAgg168
 z50 := Tryz.sizeOf168
 v50 := Tryz.zeroValue168
 t53 := Tryz.underlying225
 a53 := Tryz.isAgg225
 z53 := Tryz.sizeOf225
 v53 := Tryz.zeroValue225
 t55 := Tryz.underlying219
 a55 := Tryz.isAgg219
 z55 := Tryz.sizeOf219
 v55 := Tryz.zeroValue219
 t66 := Tryz.underlying312
 a66 := Tryz.isAgg312
 z66 := Tryz.sizeOf312
 v66 := Tryz.zeroValue312
 t70 := Tryz.underlying316
 a70 := Tryz.isAgg316
 z70 := Tryz.sizeOf316
 v70 := Tryz.zeroValue316
 t76 := Tryz.underlying334
 a76 := Tryz.isAgg334
 z76 := Tryz.sizeOf334
 v76 := Tryz.zeroValue334
 t77 := Tryz.underlying335
 a77 := Tryz.isAgg335
 z77 := Tryz.sizeOf335
 v77 := Tryz.zeroValue335 }
end Go.Proofs
