/-
 PLAIN LAWS: moved values, piece by piece.
 PLAIN LAWS: each operation told of moved values.
 PLAIN LAW: by other names an expression's value is the value by those names.
 PLAIN LAW: a store, a request and an expression moved are right ones; MoveMeans, as far as it is plain.
 THE WALK: the laws' comparison of nodes.
 PLAIN LAWS: the strings of an expression are short.
 THE WALKS: what all laws of moves ask first; what is shaped is short.
 THE WALKS: (move.mover).part, at a set of a value; values moved.
 THE WALKS: move.Value; the law's back, the reference's MoveFault; values that are none.
 THE WALKS: move.uid.
 PLAIN: the numbers of an expression stay in 64 bits if those of its number nodes do.
 PLAIN WORDS: the answer of some policies to a request. PLAIN LAWS for AuthOrder, AuthTrumps, AuthMore, AuthAlone, AuthApart, AuthCopies.
 THE WALKS: link.slotted, link.Slots.
 PLAIN WORDS: policies in memory and what auth.Ask answers.
-/
import Derived.Test.YtpheiojmcafolaaGreatDoorSy10
import Derived.Test.YtpheiojmcafolaaGreatDoorSy01
import Derived.BigQuiet
import Derived.Test.YtpheiojmcafolaaGreatDoorSy12
import Derived.Test.YtpheiojmcafolaaGreatDoorSy13
import Derived.Test.YtpheiojmcafolaaGreatDoorSy09
import Derived.Test.YtpheiojmcafolaaGreatDoorSy02
import Derived.Test.YtpheiojmcafolaaGreatDoorSy06
import Derived.Test.YtpheiojmcafolaaGreatDoorSy08
import Derived.LoopN
import Derived.Deep.RegionHeld3
import Derived.Test.YtpheiojmcafolaaGreatDoorSy14
namespace Go.Proofs.YtpheiojmcafolaaGreatDoor
open Go.RowKit
theorem movGo_fuel (m : Mv) (vals : Bool) : ∀ (N : Nat) (xs : List Nd) (b : Bool), xs.length ≤ N → Ex (.one b) xs → ∀ k j, xs.length ≤ k → xs.length ≤ j → movGo m vals k xs = movGo m vals j xs
 | 0, xs, b, hN, hx => by obtain ⟨x, r, rfl, _, _⟩ := ex_ne hx; simp at hN
 | N + 1, xs, b, hN, hx => by
  obtain ⟨n, ps, rfl, h7, hs, hl, hp⟩ := ex_cutE hx;intro k j hk hj;rw [List.length_cons] at hN hk hj;match k, hk, j, hj with
  | k + 1, hk, j + 1, hj =>
   have e : ps.map (movGo m vals k) = ps.map (movGo m vals j) := List.map_congr_left fun p hpm => by
    have := part_le hpm;exact movGo_fuel m vals N p _ (by omega) (hp p hpm) k j (by omega) (by omega)
   rw [movGo_any m vals k n (fun p hpm => ⟨_, hp p hpm⟩), movGo_any m vals j n (fun p hpm => ⟨_, hp p hpm⟩), e]
def mvV (m : Mv) (v : List Nd) : List Nd := (movGo m true v.length v).getD []
def FrL (m : Mv) (e : List Nd) : Prop := ∀ x ∈ e, looksB m x = true → x.s.toList ≠ m.to_.toList
theorem FrL.sub {m : Mv} {a b : List Nd} (h : FrL m b) (hs : ∀ x ∈ a, x ∈ b) : FrL m a := fun x hx => h x (hs x hx)
structure GV (m : Mv) (v : List Nd) : Prop where
 ok : valErr v = 0
 fr : FrL m v
variable {m : Mv}
theorem GV.mv (hm : mvErr m = 0) {v : List Nd} (h : GV m v) : movGo m true v.length v = some (mvV m v) ∧ valErr (mvV m v) = 0 ∧ (mvV m v).length = v.length ∧ (mvV m v).head? = v.head?.map (ren m) ∧ movGo (backM m) true v.length (mvV m v) = some v := by
 obtain ⟨h1, h2⟩ := (val_iff v).1 h.ok;obtain ⟨x, a1, a2, a3, a5, a4⟩ := vx_back hm h2 h1 h.fr v.length (Nat.le_refl _);have e : mvV m v = x := by unfold mvV; rw [a1]; rfl
 rw [e];exact ⟨a1, (val_iff x).2 ⟨by omega, a2⟩, a3, a5, a4⟩
theorem mvV_inj (hm : mvErr m = 0) {v w : List Nd} (hv : GV m v) (hw : GV m w) : mvV m v = mvV m w ↔ v = w := by
 constructor
 · intro e;have h1 := (hv.mv hm).2.2.2.2;have h2 := (hw.mv hm).2.2.2.2;have hl : v.length = w.length := by rw [← (hv.mv hm).2.2.1, e, (hw.mv hm).2.2.1]
   rw [e, hl, h2] at h1;injection h1 with h1
   exact h1.symm
 · rintro rfl; rfl
theorem opH_head (v : List Nd) : opH v = (v.head?.map Nd.op).getD 0 := by cases v <;> rfl
theorem nH_head (v : List Nd) : nH v = (v.head?.map Nd.n).getD 0 := by cases v <;> rfl
theorem mvV_op (hm : mvErr m = 0) {v : List Nd} (h : GV m v) : opH (mvV m v) = opH v := by
 rw [opH_head, (h.mv hm).2.2.2.1, opH_head];cases v.head? with
 | none => rfl
 | some x => exact (ren_op m x).1
theorem mvV_n (hm : mvErr m = 0) {v : List Nd} (h : GV m v) : nH (mvV m v) = nH v := by
 rw [nH_head, (h.mv hm).2.2.2.1, nH_head];cases v.head? with
 | none => rfl
 | some x => exact (ren_op m x).2.1
theorem mvV_leaf (m : Mv) {n : Nd} (h5 : ¬ n.op = 5) (h6 : ¬ n.op = 6) : mvV m [n] = [ren m n] := by
 unfold mvV;rw [show ([n] : List Nd).length = 0 + 1 from rfl, leaf_step m true 0 h5 h6];rfl
theorem ren_id {x : Nd} (h : looksB m x = false) : ren m x = x := by unfold ren; rw [if_neg (by simp [h])]
theorem leaf_of {v : List Nd} (h : valErr v = 0) (h5 : ¬ opH v = 5) (h6 : ¬ opH v = 6) : ∃ x, v = [x] ∧ shapedV x = true := by
 obtain ⟨_, hx⟩ := (val_iff v).1 h;cases hx with
 | leaf n hs _ _ _ => exact ⟨n, rfl, hs⟩
 | set n ps _ hh _ _ _ => exact absurd hh h5
 | rcd n ps _ hh _ _ _ _ _ => exact absurd hh h6
theorem mvV_plain (m : Mv) {v : List Nd} (h : valErr v = 0) (ho : opH v = 1 ∨ opH v = 2 ∨ opH v = 3) : mvV m v = v := by
 obtain ⟨x, rfl, _⟩ := leaf_of h (by omega) (by omega);have ho' : x.op = 1 ∨ x.op = 2 ∨ x.op = 3 := ho;rw [mvV_leaf m (by omega) (by omega), ren_id (by unfold looksB; rw [if_neg (by omega), if_neg (by omega)])]
theorem set_node {n : Nd} (hs : shapedV n = true) (h : n.op = 5 ∨ n.op = 6) : n = ⟨n.op, n.n, ⟨#[]⟩, ⟨#[]⟩⟩ := by
 have hs' : n.s.toList = [] ∧ n.t.toList = [] := by
  unfold shapedV at hs;rw [if_neg (by omega), if_neg (by omega), if_neg (by omega), if_neg (by omega), if_pos (by omega)] at hs;simp at hs;exact ⟨hs.1.2, hs.2⟩
 have e1 : n.s = ⟨#[]⟩ := toList_ext (by rw [hs'.1, ByteArray.toList_eq]);have e2 : n.t = ⟨#[]⟩ := toList_ext (by rw [hs'.2, ByteArray.toList_eq]);cases n; simp at e1 e2; simp [e1, e2]
theorem set_cut {v : List Nd} (h : valErr v = 0) (h5 : opH v = 5) : ∃ ps : List (List Nd), v = ⟨5, ps.length, ⟨#[]⟩, ⟨#[]⟩⟩ :: ps.flatten ∧ (∀ p ∈ ps, valErr p = 0) ∧ ps.Pairwise LtN ∧ partsV v = ps := by
 obtain ⟨hl, hx⟩ := (val_iff v).1 h;cases hx with
 | leaf n hs h5' _ _ => exact absurd h5 h5'
 | rcd n ps _ h6 _ _ _ _ _ => have : n.op = 5 := h5; omega
 | set n ps hs h5' hn hv hc =>
  rw [List.length_cons] at hl;refine ⟨ps, ?_, fun p hp => (val_iff p).2 ⟨by have := mem_len hp; omega, hv p hp⟩, (chain_pw hc).1, kids_any ps (fun p hp => ⟨_, vx_ex (hv p hp)⟩) _ (Nat.le_refl _)⟩;have := set_node hs (.inl h5');rw [h5', hn] at this;rw [← this]
theorem rec_cut {v : List Nd} (h : valErr v = 0) (h6 : opH v = 6) : ∃ ps : List (List Nd), v = ⟨6, ps.length, ⟨#[]⟩, ⟨#[]⟩⟩ :: ps.flatten ∧ (∀ p ∈ ps, Fx p) ∧ ExK true ⟨#[]⟩ ps ∧ partsV v = ps := by
 obtain ⟨hl, hx⟩ := (val_iff v).1 h;cases hx with
 | leaf n hs _ h6' _ => exact absurd h6 h6'
 | set n ps _ h5 _ _ _ => have : n.op = 6 := h6; omega
 | rcd n ps hs h6' hn h1 h2 h3 hc =>
  have hf : ∀ p ∈ ps, Fx p := fun p hp => by
   obtain ⟨f, u, rfl⟩ := h1 p hp;exact ⟨f, u, rfl, (h2 f u hp).1, (h2 f u hp).2, h3 f u hp⟩
  have hex : ∀ p ∈ ps, Ex (.one true) p := fun p hp => by
   obtain ⟨f, u, rfl, a, b, c⟩ := hf p hp;exact fx_ex a b (vx_ex c)
  refine ⟨ps, ?_, hf, rise_exk hex hc, kids_any ps (fun p hp => ⟨_, hex p hp⟩) _ (Nat.le_refl _)⟩;have := set_node hs (.inr h6');rw [h6', hn] at this;rw [← this]
theorem GV.part {v p : List Nd} (h : GV m v) (h5 : opH v = 5) (hp : p ∈ partsV v) : GV m p := by
 obtain ⟨ps, e, h1, _, h3⟩ := set_cut h.ok h5;rw [h3] at hp;refine ⟨h1 p hp, h.fr.sub fun x hx => ?_⟩;rw [e];exact List.mem_cons_of_mem _ (List.mem_flatten.2 ⟨p, hp, hx⟩)
theorem mem_setParts' {qs : List (List Nd)} {p : List Nd} : p ∈ setParts qs ↔ p ∈ qs := by
 have key : ∀ (l : List (List Nd)) (a x : List Nd), x ∈ l → x = a ∨ x ∈ dedupA a l := by
  intro l;induction l with
  | nil => intro a x hx; cases hx
  | cons b r ih =>
   intro a x hx;rw [dedupA];split
   · rename_i h0;have hab : a = b := cm_nds.eq a b h0;rcases List.mem_cons.1 hx with rfl | hx
     · exact .inl hab.symm
     · exact ih a x hx
   · rcases List.mem_cons.1 hx with rfl | hx
     · exact .inr (List.mem_cons_self ..)
     · rcases ih b x hx with rfl | h
       · exact .inr (List.mem_cons_self ..)
       · exact .inr (List.mem_cons_of_mem _ h)
 refine ⟨mem_setParts, fun h => ?_⟩;have h' : p ∈ qs.mergeSort ndsLe := (List.mergeSort_perm _ _).mem_iff.2 h;unfold setParts;cases hq : qs.mergeSort ndsLe with
 | nil => rw [hq] at h'; cases h'
 | cons a r =>
  rw [hq] at h';rw [dedupP];rcases List.mem_cons.1 h' with rfl | h'
  · exact List.mem_cons_self ..
  · rcases key r a p h' with rfl | h
    · exact List.mem_cons_self ..
    · exact List.mem_cons_of_mem _ h
theorem ltN_ext {ps qs : List (List Nd)} (h1 : ps.Pairwise LtN) (h2 : qs.Pairwise LtN) (h : ∀ p, p ∈ ps ↔ p ∈ qs) : ps = qs :=
 pw_eq ltN_irrefl ltN_trans h1 h2 ((List.perm_ext_iff_of_nodup (ltN_nodup h1) (ltN_nodup h2)).2 h)
theorem setParts_ext {ps qs : List (List Nd)} (h : ∀ p, p ∈ ps ↔ p ∈ qs) : setParts ps = setParts qs :=
 ltN_ext (setParts_pw _) (setParts_pw _) fun p => by rw [mem_setParts', mem_setParts', h]
theorem mvV_set (hm : mvErr m = 0) {v : List Nd} (h : GV m v) (h5 : opH v = 5) : mvV m v = setNodes ((partsV v).map (mvV m)) ∧ partsV (mvV m v) = setParts ((partsV v).map (mvV m)) := by
 obtain ⟨ps, e, h1, h2, h3⟩ := set_cut h.ok h5;have hp : ∀ p ∈ ps, GV m p := fun p hp => h.part h5 (by rw [h3]; exact hp);have hl : ps.flatten.length + 1 ≤ 200 := by have := ((val_iff v).1 h.ok).1; rw [e, List.length_cons] at this; exact this
 have hmap : ps.map (movGo m true ps.flatten.length) = (ps.map (mvV m)).map some := by
  rw [List.map_map];refine List.map_congr_left fun p hpm => ?_;show movGo m true ps.flatten.length p = some (mvV m p);rw [← ((hp p hpm).mv hm).1];exact movGo_fuel m true _ p false (Nat.le_refl _) (vx_ex ((val_iff p).1 (h1 p hpm)).2) _ _ (mem_len hpm) (Nat.le_refl _)
 have hvq : ∀ q ∈ ps.map (mvV m), Vx q := fun q hq => by obtain ⟨p, hpm, rfl⟩ := List.mem_map.1 hq; exact ((val_iff _).1 ((hp p hpm).mv hm).2.1).2
 have hfl := map_flat_len ps (F := mvV m) fun p hpm => ((hp p hpm).mv hm).2.2.1;obtain ⟨a1, a2, a3⟩ := setOf_ok hvq (by omega);have hmv : mvV m v = setNodes (ps.map (mvV m)) := by
  have h0 := (h.mv hm).1;rw [e, List.length_cons, movGo_any m true _ _ (fun p hpm => ⟨_, vx_ex ((val_iff p).1 (h1 p hpm)).2⟩), hmap, allSome_map] at h0;simp only [show ¬ (5 : Int) = 6 from by omega, if_false, true_and, if_true, a1] at h0;injection h0 with h0
  rw [e]; exact h0.symm
 rw [h3, hmv];refine ⟨rfl, ?_⟩;unfold setNodes;exact kids_any _ (fun p hpm => ⟨_, vx_ex (hvq p (mem_setParts hpm))⟩) _ (Nat.le_refl _)
def mvF (m : Mv) (p : List Nd) : List Nd := match p with
 | [] => []
 | f :: v => ren m f :: mvV m v
theorem mvV_rec (hm : mvErr m = 0) {v : List Nd} (h : GV m v) (h6 : opH v = 6) : mvV m v = ⟨6, (partsV v).length, ⟨#[]⟩, ⟨#[]⟩⟩ :: (sortN ((partsV v).map (mvF m))).flatten ∧ partsV (mvV m v) = sortN ((partsV v).map (mvF m)) ∧ (namesOf ((partsV v).map (mvF m))).Nodup := by
 obtain ⟨ps, e, h1, h2, h3⟩ := rec_cut h.ok h6;have hl : ps.flatten.length + 1 ≤ 200 := by have := ((val_iff v).1 h.ok).1; rw [e, List.length_cons] at this; exact this
 have hfr : ∀ p ∈ ps, FrL m p := fun p hp => h.fr.sub fun x hx => by rw [e]; exact List.mem_cons_of_mem _ (List.mem_flatten.2 ⟨p, hp, hx⟩)
 have hpv : ∀ p ∈ ps, ∃ f u, p = f :: u ∧ f.op = 7 ∧ shapedV f = true ∧ GV m u := fun p hp => by
  obtain ⟨f, u, rfl, a, b, c⟩ := h1 p hp;have := mem_len hp;rw [List.length_cons] at this;exact ⟨f, u, rfl, a, b, (val_iff u).2 ⟨by omega, c⟩, (hfr _ hp).sub fun x hx => List.mem_cons_of_mem _ hx⟩
 have hex : ∀ p ∈ ps, Ex (.one true) p := fun p hp => by
  obtain ⟨f, u, rfl, a, b, c⟩ := h1 p hp;exact fx_ex a b (vx_ex c)
 have hmap : ps.map (movGo m true ps.flatten.length) = (ps.map (mvF m)).map some := by
  rw [List.map_map];refine List.map_congr_left fun p hpm => ?_;show movGo m true ps.flatten.length p = some (mvF m p);rw [movGo_fuel m true _ p true (Nat.le_refl _) (hex p hpm) ps.flatten.length p.length (mem_len hpm) (Nat.le_refl _)];obtain ⟨f, u, rfl, a, b, c⟩ := hpv p hpm;rw [List.length_cons, fld_step m true _ (vx_ex ((val_iff u).1 c.ok).2) a, (c.mv hm).1];rfl
 have heq : ∀ q ∈ ps.map (mvF m), Ex (.one true) q := fun q hq => by
  obtain ⟨p, hpm, rfl⟩ := List.mem_map.1 hq;obtain ⟨f, u, rfl, a, b, c⟩ := hpv p hpm;exact fx_ex (by rw [(ren_op m f).1]; exact a) (ren_shapedV hm b) (vx_ex ((val_iff _).1 (c.mv hm).2.1).2)
 have h0 := (h.mv hm).1;rw [e, List.length_cons, movGo_any m true _ _ (fun p hpm => ⟨_, hex p hpm⟩), hmap, allSome_map] at h0;simp only [if_true] at h0;split at h0
 · rename_i hnd;have hren : ren m ⟨6, ps.length, ⟨#[]⟩, ⟨#[]⟩⟩ = ⟨6, ps.length, ⟨#[]⟩, ⟨#[]⟩⟩ := ren_id rfl;rw [hren] at h0;injection h0 with h0
   rw [h3];have hmv : mvV m v = ⟨6, ps.length, ⟨#[]⟩, ⟨#[]⟩⟩ :: (sortN (ps.map (mvF m))).flatten := by rw [e, ← h0]
   refine ⟨hmv, ?_, hnd⟩;rw [hmv];exact kids_any _ (fun p hpm => ⟨_, heq p ((sortN_perm _).mem_iff.1 hpm)⟩) _ (Nat.le_refl _)
 · cases h0
end Go.Proofs.YtpheiojmcafolaaGreatDoor
namespace Go.Proofs.YtpheiojmcafolaaGreatDoor
open Go.RowKit
variable {m : Mv}
def SimR (m : Mv) (r r' : Rs (List Nd)) : Prop := (∃ v, r = .ok v ∧ GV m v ∧ r' = .ok (mvV m v)) ∨ ∃ k k', r = .bad k ∧ r' = .bad k'
def SimB (r r' : Rs Bool) : Prop := (∃ b, r = .ok b ∧ r' = .ok b) ∨ ∃ k k', r = .bad k ∧ r' = .bad k'
theorem SimR.ok {v : List Nd} (h : GV m v) : SimR m (.ok v) (.ok (mvV m v)) := .inl ⟨v, rfl, h, rfl⟩
theorem SimR.bad (k k' : Int) : SimR m (.bad k) (.bad k') := .inr ⟨k, k', rfl, rfl⟩
theorem SimR.bind {r r' : Rs (List Nd)} {f f' : List Nd → Rs (List Nd)} (h : SimR m r r') (hf : ∀ v, GV m v → SimR m (f v) (f' (mvV m v))) : SimR m (r.bind f) (r'.bind f') := by
 rcases h with ⟨v, rfl, hv, rfl⟩ | ⟨k, k', rfl, rfl⟩
 · exact hf v hv
 · exact .bad k k'
theorem SimR.must (hm : mvErr m = 0) {r r' : Rs (List Nd)} (h : SimR m r r') (op : Int) : SimR m (mustV r op) (mustV r' op) := by
 unfold mustV;refine h.bind fun v hv => ?_;rw [mvV_op hm hv];by_cases e : opH v = op
 · rw [if_pos e, if_pos e]; exact .ok hv
 · rw [if_neg e, if_neg e]; exact .bad _ _
theorem SimR.mustOf (hm : mvErr m = 0) {v : List Nd} (hv : GV m v) (op : Int) {f f' : List Nd → Rs (List Nd)} (hf : opH v = op → SimR m (f v) (f' (mvV m v))) : SimR m ((mustV (.ok v) op).bind f) ((mustV (.ok (mvV m v)) op).bind f') := by
 unfold mustV;show SimR m ((if opH v = op then Rs.ok v else Rs.bad 2).bind f) ((if opH (mvV m v) = op then Rs.ok (mvV m v) else Rs.bad 2).bind f');rw [mvV_op hm hv];by_cases e : opH v = op
 · rw [if_pos e, if_pos e]; exact hf e
 · rw [if_neg e, if_neg e]; exact .bad _ _
theorem SimR.mustOfB (hm : mvErr m = 0) {v : List Nd} (hv : GV m v) (op : Int) {f f' : List Nd → Rs Bool} (hf : opH v = op → SimB (f v) (f' (mvV m v))) : SimB ((mustV (.ok v) op).bind f) ((mustV (.ok (mvV m v)) op).bind f') := by
 unfold mustV;show SimB ((if opH v = op then Rs.ok v else Rs.bad 2).bind f) ((if opH (mvV m v) = op then Rs.ok (mvV m v) else Rs.bad 2).bind f');rw [mvV_op hm hv];by_cases e : opH v = op
 · rw [if_pos e, if_pos e]; exact hf e
 · rw [if_neg e, if_neg e]; exact .inr ⟨2, 2, rfl, rfl⟩
theorem looks_no {x : Nd} (h : ¬ (x.op = 7 ∨ x.op = 21 ∨ x.op = 22) ∧ ¬ (x.op = 4 ∨ x.op = 24)) : looksB m x = false := by
 unfold looksB; rw [if_neg h.1, if_neg h.2]
theorem bN_gv (b : Bool) : GV m [bN b] := ⟨bN_vx b, fun x hx => by simp at hx; subst hx; rw [looks_no (by simp [bN])]; simp⟩
theorem nN_gv (n : Int) : GV m [nN n] := ⟨nN_vx n, fun x hx => by simp at hx; subst hx; rw [looks_no (by simp [nN])]; simp⟩
theorem SimR.bool (b : Bool) : SimR m (.ok [bN b]) (.ok [bN b]) := by
 have := SimR.ok (m := m) (bN_gv b);rwa [mvV_plain m (bN_vx b) (.inl rfl)] at this
theorem SimR.num (n : Int) : SimR m (.ok [nN n]) (.ok [nN n]) := by
 have := SimR.ok (m := m) (nN_gv n);rwa [mvV_plain m (nN_vx n) (.inr (.inl rfl))] at this
theorem SimR.numR (r : Rs Int) : SimR m (r.bind fun n => .ok [nN n]) (r.bind fun n => .ok [nN n]) := by
 cases r with
 | ok n => exact .num n
 | bad k => exact .bad k k
theorem SimR.likeR (r : Rs Bool) : SimR m (r.bind fun n => .ok [bN n]) (r.bind fun n => .ok [bN n]) := by
 cases r with
 | ok n => exact .bool n
 | bad k => exact .bad k k
theorem SimB.toR {r r' : Rs Bool} (h : SimB r r') : SimR m (r.bind fun b => .ok [bN b]) (r'.bind fun b => .ok [bN b]) := by
 rcases h with ⟨b, rfl, rfl⟩ | ⟨k, k', rfl, rfl⟩
 · exact .bool b
 · exact .bad k k'
theorem sim_either (hm : mvErr m = 0) {op : Int} {ra rb ra' rb' : Rs (List Nd)} (ha : SimR m ra ra') (hb : SimR m rb rb') : SimR m (eitherR op ra rb) (eitherR op ra' rb') := by
 unfold eitherR;refine (ha.must hm 1).bind fun v hv => ?_;rw [mvV_n hm hv];by_cases e : (nH v == 1) = (op == 12)
 · rw [if_pos e, if_pos e]; exact .ok hv
 · rw [if_neg e, if_neg e]; exact hb.must hm 1
theorem sim_choice (hm : mvErr m = 0) {rc ra rb rc' ra' rb' : Rs (List Nd)} (hc : SimR m rc rc') (ha : SimR m ra ra') (hb : SimR m rb rb') : SimR m (choiceR rc ra rb) (choiceR rc' ra' rb') := by
 unfold choiceR;refine (hc.must hm 1).bind fun v hv => ?_;rw [mvV_n hm hv];by_cases e : nH v = 1
 · rw [if_pos e, if_pos e]; exact ha
 · rw [if_neg e, if_neg e]; exact hb
def rnS (m : Mv) (k : Int) (s : ByteArray) : ByteArray := if m.what = k ∧ s.toList = m.fr.toList then m.to_ else s
theorem rnS_inj {k : Int} {s t : ByteArray} (hs : m.what = k → s.toList ≠ m.to_.toList) (ht : m.what = k → t.toList ≠ m.to_.toList) : rnS m k s = rnS m k t ↔ s = t := by
 unfold rnS;constructor
 · intro h;split at h
   · rename_i h1;split at h
     · rename_i h2; exact toList_ext (h1.2.trans h2.2.symm)
     · exact absurd (by rw [← h]) (ht h1.1)
   · rename_i h1;split at h
     · rename_i h2; exact absurd (by rw [h]) (hs h2.1)
     · exact h
 · rintro rfl; rfl
theorem ren_s1 (m : Mv) {x : Nd} (h : x.op = 7 ∨ x.op = 21 ∨ x.op = 22) : ren m x = ⟨x.op, x.n, rnS m 1 x.s, x.t⟩ := by
 have hl : looksB m x = (m.what == 1) := by unfold looksB; rw [if_pos h]
 unfold ren rnS;rw [hl];by_cases e : m.what = 1
 · simp only [e, beq_self_eq_true, true_and]; split <;> rfl
 · have : (m.what == 1) = false := by simpa using e
   simp [this, e]
theorem ren_s2 (m : Mv) {x : Nd} (h : x.op = 4 ∨ x.op = 24) : ren m x = ⟨x.op, x.n, rnS m 2 x.s, x.t⟩ := by
 have hl : looksB m x = (m.what == 2) := by unfold looksB; rw [if_neg (by omega), if_pos h]
 unfold ren rnS;rw [hl];by_cases e : m.what = 2
 · simp only [e, beq_self_eq_true, true_and]; split <;> rfl
 · have : (m.what == 2) = false := by simpa using e
   simp [this, e]
def mvU (m : Mv) (u : Ud) : Ud := ⟨rnS m 2 u.ty, u.id⟩
def FrU (m : Mv) (u : Ud) : Prop := m.what = 2 → u.ty.toList ≠ m.to_.toList
theorem mvU_inj {u w : Ud} (hu : FrU m u) (hw : FrU m w) : mvU m u = mvU m w ↔ u = w := by
 constructor
 · intro h;have h1 : rnS m 2 u.ty = rnS m 2 w.ty := congrArg Ud.ty h;have h2' : (mvU m u).id = (mvU m w).id := congrArg Ud.id h;have h2 : u.id = w.id := h2';have := (rnS_inj hu hw).1 h1;cases u; cases w; simp at this h2; simp [this, h2]
 · rintro rfl; rfl
theorem ent_val {v : List Nd} (h : valErr v = 0) (h4 : opH v = 4) : v = [eN (udH v)] ∧ udErr (udH v) = 0 := by
 obtain ⟨x, rfl, hs⟩ := leaf_of h (by omega) (by omega);have h4' : x.op = 4 := h4;unfold shapedV at hs;rw [if_neg (by omega), if_neg (by omega), if_neg (by omega), if_pos h4'] at hs;simp only [Bool.and_eq_true, beq_iff_eq] at hs;obtain ⟨⟨h1, h2⟩, h3⟩ := hs;refine ⟨?_, ?_⟩
 · cases x; simp at h4' h1; subst h4' h1; rfl
 · show udErr ⟨x.s, x.t⟩ = 0;unfold udErr; rw [if_pos h2]; exact h3
theorem looks_ent (u : Ud) : looksB m (eN u) = (m.what == 2) := rfl
theorem GV.ent {u : Ud} (h : GV m [eN u]) : FrU m u := fun e => h.fr (eN u) (by simp) (by rw [looks_ent, e]; rfl)
theorem eN_gv {u : Ud} (h : udErr u = 0) (hf : FrU m u) : GV m [eN u] := ⟨eN_vx h, fun x hx => by
 simp at hx; subst hx; rw [looks_ent]; intro e; exact hf (by simpa using e)⟩
theorem mvV_ent (u : Ud) : mvV m [eN u] = [eN (mvU m u)] := by
 rw [mvV_leaf m (by simp [eN]) (by simp [eN]), ren_s2 m (.inl rfl)]; rfl
structure EsF (m : Mv) (es : List En) : Prop where
 u : ∀ e ∈ es, FrU m e.u
 up : ∀ e ∈ es, ∀ p ∈ e.up, FrU m p
 at_ : ∀ e ∈ es, GV m e.at_ ∧ opH e.at_ = 6
def mvE (m : Mv) (e : En) : En := ⟨mvU m e.u, e.up.map (mvU m), mvV m e.at_⟩
theorem find_mv {es : List En} (h : ∀ e ∈ es, FrU m e.u) {u : Ud} (hu : FrU m u) : (es.map (mvE m)).find? (fun e => decide (e.u = mvU m u)) = (es.find? fun e => decide (e.u = u)).map (mvE m) := by
 induction es with
 | nil => rfl
 | cons e r ih =>
  have h1 : decide ((mvE m e).u = mvU m u) = decide (e.u = u) := decide_eq_decide.2 (mvU_inj (h e (by simp)) hu);rw [List.map_cons, List.find?_cons, List.find?_cons, h1];cases decide (e.u = u) with
  | true => rfl
  | false => exact ih fun x hx => h x (by simp [hx])
theorem upOf_mv {es : List En} (h : EsF m es) {u : Ud} (hu : FrU m u) : upOf (es.map (mvE m)) (mvU m u) = (upOf es u).map (mvU m) := by
 unfold upOf;rw [find_mv h.u hu];cases es.find? fun e => decide (e.u = u) <;> rfl
theorem mem_mv {l : List Ud} {u : Ud} (hl : ∀ x ∈ l, FrU m x) (hu : FrU m u) : mvU m u ∈ l.map (mvU m) ↔ u ∈ l := by
 constructor
 · intro h;obtain ⟨x, hx, e⟩ := List.mem_map.1 h;rwa [← (mvU_inj (hl x hx) hu).1 e]
 · exact List.mem_map_of_mem
theorem upOf_fr {es : List En} (h : EsF m es) (u : Ud) : ∀ p ∈ upOf es u, FrU m p := by
 intro p hp;unfold upOf at hp;split at hp
 · cases hp
 · rename_i e he; exact h.up e (List.mem_of_find?_eq_some he) p hp
theorem abv_mv {es : List En} (h : EsF m es) : ∀ (k : Nat) (u : Ud) (met : List Ud), FrU m u → (∀ x ∈ met, FrU m x) →
 abv (es.map (mvE m)) k (mvU m u) (met.map (mvU m)) = (abv es k u met).map (mvU m) ∧ ∀ x ∈ abv es k u met, FrU m x
 | 0, u, met, _, hx => ⟨rfl, hx⟩
 | k + 1, u, met, hu, hx => by
  rw [abv, abv, upOf_mv h hu];have key : ∀ (ps : List Ud) (mt : List Ud), (∀ p ∈ ps, FrU m p) → (∀ x ∈ mt, FrU m x) →
   (ps.map (mvU m)).foldl (fun mt p => if p ∈ mt then mt else abv (es.map (mvE m)) k p (mt ++ [p])) (mt.map (mvU m)) = (ps.foldl (fun mt p => if p ∈ mt then mt else abv es k p (mt ++ [p])) mt).map (mvU m) ∧
   ∀ x ∈ ps.foldl (fun mt p => if p ∈ mt then mt else abv es k p (mt ++ [p])) mt, FrU m x := by
   intro ps;induction ps with
   | nil => intro mt _ hm; exact ⟨rfl, hm⟩
   | cons p ps ih =>
    intro mt hp hmt;rw [List.map_cons, List.foldl_cons, List.foldl_cons];have hpf := hp p (by simp);by_cases e : p ∈ mt
    · rw [if_pos e, if_pos ((mem_mv hmt hpf).2 e)];exact ih mt (fun q hq => hp q (by simp [hq])) hmt
    · rw [if_neg e, if_neg (fun h => e ((mem_mv hmt hpf).1 h))];have h1 := abv_mv h k p (mt ++ [p]) hpf (fun x hx => by
       rcases List.mem_append.1 hx with hx | hx
       · exact hmt x hx
       · simp at hx; subst hx; exact hpf)
      rw [List.map_append, List.map_cons, List.map_nil] at h1;rw [h1.1];exact ih _ (fun q hq => hp q (by simp [hq])) h1.2
  exact key (upOf es u) met (upOf_fr h u) hx
theorem inB_mv {es : List En} (h : EsF m es) {a b : Ud} (ha : FrU m a) (hb : FrU m b) : inB (es.map (mvE m)) (mvU m a) (mvU m b) = inB es a b := by
 unfold inB;have h1 := abv_mv h 100 a [a] ha (fun x hx => by simp at hx; subst hx; exact ha);rw [List.map_cons, List.map_nil] at h1;rw [h1.1];exact decide_eq_decide.2 (mem_mv h1.2 hb)
theorem cyc_mv {es : List En} (h : EsF m es) : cycB (es.map (mvE m)) = cycB es := by
 unfold cycB;rw [List.any_map];have : ∀ e ∈ es, decide ((mvE m e).u ∈ abv (es.map (mvE m)) 100 (mvE m e).u []) = decide (e.u ∈ abv es 100 e.u []) := fun e he => by
  have h1 := abv_mv h 100 e.u [] (h.u e he) (by simp);rw [List.map_nil] at h1;show decide (mvU m e.u ∈ abv (es.map (mvE m)) 100 (mvU m e.u) []) = _;rw [h1.1];exact decide_eq_decide.2 (mem_mv h1.2 (h.u e he))
 clear h;suffices hs : ∀ (l : List En) (f g : En → Bool), (∀ e ∈ l, f e = g e) → l.any f = l.any g from hs es _ _ this
 intro l f g;induction l with
 | nil => intro _; rfl
 | cons a r ih => intro hh; rw [List.any_cons, List.any_cons, hh a (by simp), ih fun e he => hh e (by simp [he])]
theorem sH_headS (p : List Nd) : sH p = headS p := by cases p <;> rfl
theorem find_nameM {ps : List (List Nd)} {s : ByteArray} {p : List Nd} (hn : (namesOf ps).Nodup) (hp : p ∈ ps) (hs : sH p = s) : ps.find? (fun p => decide (sH p = s)) = some p := by
 induction ps with
 | nil => cases hp
 | cons a r ih =>
  rw [List.find?_cons];have hn' : (headS a).toList ∉ namesOf r ∧ (namesOf r).Nodup := List.nodup_cons.1 hn;by_cases e : sH a = s
  · rw [decide_eq_true e];rcases List.mem_cons.1 hp with rfl | hp
    · rfl
    · exact absurd (List.mem_map.2 ⟨p, hp, by rw [← sH_headS, ← sH_headS, hs, e]⟩) hn'.1
  · rw [decide_eq_false e];rcases List.mem_cons.1 hp with rfl | hp
    · exact absurd hs e
    · exact ih hn'.2 hp
theorem rec_part {v p : List Nd} (h : GV m v) (h6 : opH v = 6) (hp : p ∈ partsV v) : ∃ f u, p = f :: u ∧ f.op = 7 ∧ shapedV f = true ∧ GV m u ∧ (m.what = 1 → f.s.toList ≠ m.to_.toList) := by
 obtain ⟨ps, e, h1, h2, h3⟩ := rec_cut h.ok h6;rw [h3] at hp;have hl : ps.flatten.length + 1 ≤ 200 := by have := ((val_iff v).1 h.ok).1; rw [e, List.length_cons] at this; exact this
 have hfr : FrL m p := h.fr.sub fun x hx => by rw [e]; exact List.mem_cons_of_mem _ (List.mem_flatten.2 ⟨p, hp, hx⟩)
 obtain ⟨f, u, rfl, a, b, c⟩ := h1 p hp;have := mem_len hp;rw [List.length_cons] at this;refine ⟨f, u, rfl, a, b, ⟨(val_iff u).2 ⟨by omega, c⟩, hfr.sub fun x hx => List.mem_cons_of_mem _ hx⟩, fun hw => hfr f (by simp) ?_⟩;unfold looksB; rw [if_pos (.inl a), hw]; rfl
theorem sim_get (hm : mvErr m = 0) {v : List Nd} (h : GV m v) (h6 : opH v = 6) {s : ByteArray} (hs : m.what = 1 → s.toList ≠ m.to_.toList) : SimR m (getR v s) (getR (mvV m v) (rnS m 1 s)) := by
 obtain ⟨ps, e, h1, h2, h3⟩ := rec_cut h.ok h6;obtain ⟨k1, k2, k3⟩ := mvV_rec hm h h6;unfold getR;rw [if_neg (by simp [h.ok]), if_pos h6, if_neg (by simp [(h.mv hm).2.1]), if_pos (by rw [mvV_op hm h]; exact h6), k2];have hpn : (namesOf (partsV v)).Nodup := by rw [h3]; exact pw_nodup (rise_names h2)
 have hqn : (namesOf (sortN ((partsV v).map (mvF m)))).Nodup := ((sortN_perm _).map _).nodup_iff.2 k3;cases hf : (partsV v).find? (fun p => decide (sH p = s)) with
 | some p =>
  have hp := List.mem_of_find?_eq_some hf;have hps : sH p = s := by simpa using List.find?_some hf
  obtain ⟨f, u, rfl, a, b, c, d⟩ := rec_part h h6 hp;have hq : mvF m (f :: u) ∈ sortN ((partsV v).map (mvF m)) := (sortN_perm _).mem_iff.2 (List.mem_map_of_mem hp);have hqs : sH (mvF m (f :: u)) = rnS m 1 s := by
   show (ren m f).s = _;rw [ren_s1 m (.inl a)];show rnS m 1 f.s = _;rw [← hps]; rfl
  rw [find_nameM hqn hq hqs];exact .ok c
 | none =>
  have hno : ∀ q ∈ sortN ((partsV v).map (mvF m)), ¬ sH q = rnS m 1 s := fun q hq => by
   obtain ⟨p, hp, rfl⟩ := List.mem_map.1 ((sortN_perm _).mem_iff.1 hq);obtain ⟨f, u, rfl, a, b, c, d⟩ := rec_part h h6 hp;have := List.find?_eq_none.1 hf _ hp;intro hc;apply this;have hc' : rnS m 1 f.s = rnS m 1 s := by
    have : (ren m f).s = rnS m 1 s := hc;rwa [ren_s1 m (.inl a)] at this
   exact decide_eq_true (show sH (f :: u) = s from (rnS_inj d hs).1 hc')
  have : (sortN ((partsV v).map (mvF m))).find? (fun p => decide (sH p = rnS m 1 s)) = none := List.find?_eq_none.2 fun q hq => by simpa using hno q hq
  rw [this];exact .bad _ _
theorem sim_single (hm : mvErr m = 0) {es : List En} (hes : EsF m es) {x : Nd} (ho : x.op = 9 ∨ x.op = 10 ∨ x.op = 21 ∨ x.op = 22 ∨ x.op = 23 ∨ x.op = 24) (hx : looksB m x = true → x.s.toList ≠ m.to_.toList) {v : List Nd} (hv : GV m v) :
 SimR m (singleR es x v) (singleR (es.map (mvE m)) (ren m x) (mvV m v)) := by
 unfold singleR;rw [(ren_op m x).1];by_cases h9 : x.op = 9
 · rw [if_pos h9, if_pos h9];refine SimR.mustOf hm hv 1 fun e => ?_;rw [mvV_n hm hv]; exact .bool _
 rw [if_neg h9, if_neg h9];by_cases h10 : x.op = 10
 · rw [if_pos h10, if_pos h10];refine SimR.mustOf hm hv 2 fun e => ?_;rw [mvV_n hm hv]; exact .numR _
 rw [if_neg h10, if_neg h10];by_cases h23 : x.op = 23
 · rw [if_pos h23, if_pos h23];refine SimR.mustOf hm hv 3 fun e => ?_;rw [mvV_plain m hv.ok (.inr (.inr e)), ren_id (looks_no (by omega))]; exact .likeR _
 rw [if_neg h23, if_neg h23];by_cases h24 : x.op = 24
 · rw [if_pos h24, if_pos h24];refine SimR.mustOf hm hv 4 fun e => ?_;obtain ⟨hv', hu⟩ := ent_val hv.ok e;have hfu : FrU m (udH v) := by rw [hv'] at hv; exact hv.ent
   have hxs : m.what = 2 → x.s.toList ≠ m.to_.toList := fun hw => hx (by unfold looksB; rw [if_neg (by omega), if_pos (.inr h24), hw]; rfl);have hd : decide (sH (mvV m v) = (ren m x).s) = decide (sH v = x.s) := by
    rw [hv', mvV_ent, ren_s2 m (.inr h24)];exact decide_eq_decide.2 (rnS_inj hfu hxs)
   rw [hd]; exact .bool _
 rw [if_neg h24, if_neg h24];have hxs : m.what = 1 → x.s.toList ≠ m.to_.toList := fun hw => hx (by unfold looksB; rw [if_pos (by omega), hw]; rfl);have hxr : (ren m x).s = rnS m 1 x.s := by rw [ren_s1 m (by omega)]
 have hend : ∀ r, GV m r → opH r = 6 → SimR m (if x.op = 21 then (match getR r x.s with | .ok _ => .ok [bN true] | .bad _ => .ok [bN false]) else getR r x.s)
  (if x.op = 21 then (match getR (mvV m r) (ren m x).s with | .ok _ => .ok [bN true] | .bad _ => .ok [bN false]) else getR (mvV m r) (ren m x).s) := fun r hr h6 => by
  rw [hxr];have hg := sim_get hm hr h6 hxs;by_cases h21 : x.op = 21
  · rw [if_pos h21, if_pos h21];rcases hg with ⟨u, e1, _, e2⟩ | ⟨k, k', e1, e2⟩
    · rw [e1, e2]; exact .bool _
    · rw [e1, e2]; exact .bool _
  · rw [if_neg h21, if_neg h21]; exact hg
 unfold recOf;rw [mvV_op hm hv];by_cases h6 : opH v = 6
 · rw [if_pos h6, if_pos h6];exact hend v hv h6
 rw [if_neg h6, if_neg h6];by_cases h4 : opH v = 4
 · rw [if_pos h4, if_pos h4];obtain ⟨hv', hu⟩ := ent_val hv.ok h4;have hfu : FrU m (udH v) := by rw [hv'] at hv; exact hv.ent
   have hud : udH (mvV m v) = mvU m (udH v) := by
    have := mvV_ent (m := m) (udH v);rw [← hv'] at this;rw [this]; rfl
   rw [hud, find_mv hes.u hfu];cases hf : es.find? fun e => decide (e.u = udH v) with
   | none =>
    show SimR m (if x.op = 21 then .ok [bN false] else .bad 8) (if x.op = 21 then .ok [bN false] else .bad 8);split
    · exact .bool _
    · exact .bad _ _
   | some e =>
    have he := List.mem_of_find?_eq_some hf;exact hend e.at_ (hes.at_ e he).1 (hes.at_ e he).2
 · rw [if_neg h4, if_neg h4]; exact .bad _ _
theorem any_parts {qs : List (List Nd)} (f : List Nd → Bool) : (setParts qs).any f = qs.any f := by
 rw [Bool.eq_iff_iff, List.any_eq_true, List.any_eq_true];constructor
 · rintro ⟨x, hx, h⟩; exact ⟨x, mem_setParts'.1 hx, h⟩
 · rintro ⟨x, hx, h⟩; exact ⟨x, mem_setParts'.2 hx, h⟩
theorem all_parts {qs : List (List Nd)} (f : List Nd → Bool) : (setParts qs).all f = qs.all f := by
 rw [Bool.eq_iff_iff, List.all_eq_true, List.all_eq_true];constructor
 · intro h x hx; exact h x (mem_setParts'.2 hx)
 · intro h x hx; exact h x (mem_setParts'.1 hx)
theorem any_congr' {α : Type} {f g : α → Bool} : ∀ {l : List α}, (∀ x ∈ l, f x = g x) → l.any f = l.any g
 | [], _ => rfl
 | x :: l, h => by rw [List.any_cons, List.any_cons, h x (by simp), any_congr' fun y hy => h y (by simp [hy])]
theorem all_congr' {α : Type} {f g : α → Bool} : ∀ {l : List α}, (∀ x ∈ l, f x = g x) → l.all f = l.all g
 | [], _ => rfl
 | x :: l, h => by rw [List.all_cons, List.all_cons, h x (by simp), all_congr' fun y hy => h y (by simp [hy])]
theorem mem_mvs (hm : mvErr m = 0) {qs : List (List Nd)} (hq : ∀ q ∈ qs, GV m q) {p : List Nd} (hp : GV m p) : mvV m p ∈ setParts (qs.map (mvV m)) ↔ p ∈ qs := by
 rw [mem_setParts'];constructor
 · intro h;obtain ⟨q, h1, h2⟩ := List.mem_map.1 h;rwa [← (mvV_inj hm (hq q h1) hp).1 h2]
 · exact List.mem_map_of_mem
theorem sim_in (hm : mvErr m = 0) {es : List En} (hes : EsF m es) {a b : List Nd} (ha : GV m a) (hb : GV m b) : SimB (inR' es a b) (inR' (es.map (mvE m)) (mvV m a) (mvV m b)) := by
 unfold inR';refine SimR.mustOfB hm ha 4 fun h4 => ?_;obtain ⟨ha', _⟩ := ent_val ha.ok h4;have hfa : FrU m (udH a) := by rw [ha'] at ha; exact ha.ent
 have hua : udH (mvV m a) = mvU m (udH a) := by
  have := mvV_ent (m := m) (udH a);rw [← ha'] at this;rw [this]; rfl
 rw [hua, mvV_op hm hb];have key : ∀ (ts ts' : List (List Nd)), (∀ t ∈ ts, GV m t) → (∀ f : List Nd → Bool, ts'.all f = (ts.map (mvV m)).all f) → (∀ f : List Nd → Bool, ts'.any f = (ts.map (mvV m)).any f) →
  SimB (if ts.all (fun t => opH t == 4) = true then .ok (ts.any fun t => inB es (udH a) (udH t)) else .bad 2)
   (if ts'.all (fun t => opH t == 4) = true then .ok (ts'.any fun t => inB (es.map (mvE m)) (mvU m (udH a)) (udH t)) else .bad 2) := by
  intro ts ts' hts h1 h2;have e1 : ts'.all (fun t => opH t == 4) = ts.all (fun t => opH t == 4) := by
   rw [h1, List.all_map];exact all_congr' fun t ht => by show (opH (mvV m t) == 4) = _; rw [mvV_op hm (hts t ht)]
  rw [e1];by_cases hall : ts.all (fun t => opH t == 4) = true
  · rw [if_pos hall, if_pos hall];refine .inl ⟨_, rfl, ?_⟩;congr 1
    rw [h2, List.any_map];refine any_congr' fun t ht => ?_;have ht4 : opH t = 4 := (by simpa using List.all_eq_true.1 hall t ht);have hg := hts t ht;obtain ⟨ht', _⟩ := ent_val hg.ok ht4;have hft : FrU m (udH t) := (by rw [ht'] at hg; exact hg.ent);show inB _ _ (udH (mvV m t)) = _;have hut : udH (mvV m t) = mvU m (udH t) := by
     have := mvV_ent (m := m) (udH t);rw [← ht'] at this;rw [this]; rfl
    rw [hut];exact inB_mv hes hfa hft
  · rw [if_neg hall, if_neg hall]; exact .inr ⟨_, _, rfl, rfl⟩
 by_cases h5 : opH b = 5
 · rw [if_pos h5, if_pos h5];unfold partsR;rw [if_neg (by simp [hb.ok]), if_pos h5, if_neg (by simp [(hb.mv hm).2.1]), if_pos (by rw [mvV_op hm hb]; exact h5), (mvV_set hm hb h5).2];exact key _ _ (fun t ht => hb.part h5 ht) (fun f => all_parts f) (fun f => any_parts f)
 · rw [if_neg h5, if_neg h5];exact key [b] [mvV m b] (fun t ht => by simp at ht; subst ht; exact hb) (fun f => rfl) (fun f => rfl)
theorem sim_bagHas (hm : mvErr m = 0) {a b : List Nd} (ha : GV m a) (hb : GV m b) : SimB (bagHas a b) (bagHas (mvV m a) (mvV m b)) := by
 unfold bagHas;rw [if_neg (by simp [ha.ok] : ¬ valErr a ≠ 0), if_neg (by simp [hb.ok] : ¬ valErr b ≠ 0), if_neg (by simp [(ha.mv hm).2.1] : ¬ valErr (mvV m a) ≠ 0), if_neg (by simp [(hb.mv hm).2.1] : ¬ valErr (mvV m b) ≠ 0), mvV_op hm ha];by_cases h5 : opH a = 5
 · rw [if_pos h5, if_pos h5, (mvV_set hm ha h5).2];refine .inl ⟨_, rfl, ?_⟩;congr 1
   rw [any_parts, List.any_map];exact any_congr' fun t ht => decide_eq_decide.2 (mvV_inj hm (ha.part h5 ht) hb)
 · rw [if_neg h5, if_neg h5]; exact .inr ⟨_, _, rfl, rfl⟩
theorem sim_bagTwo (hm : mvErr m = 0) {a b : List Nd} (ha : GV m a) (hb : GV m b) {f : List (List Nd) → List (List Nd) → Bool} (hf : ∀ ps qs : List (List Nd), (∀ p ∈ ps, GV m p) → (∀ q ∈ qs, GV m q) → f (setParts (ps.map (mvV m))) (setParts (qs.map (mvV m))) = f ps qs) : SimB (bagTwo f a b) (bagTwo f (mvV m a) (mvV m b)) := by
 unfold bagTwo;rw [if_neg (by simp [ha.ok] : ¬ valErr a ≠ 0), if_neg (by simp [hb.ok] : ¬ valErr b ≠ 0), if_neg (by simp [(ha.mv hm).2.1] : ¬ valErr (mvV m a) ≠ 0), if_neg (by simp [(hb.mv hm).2.1] : ¬ valErr (mvV m b) ≠ 0), mvV_op hm ha, mvV_op hm hb];by_cases h5 : opH a = 5 ∧ opH b = 5
 · rw [if_pos h5, if_pos h5, (mvV_set hm ha h5.1).2, (mvV_set hm hb h5.2).2];refine .inl ⟨_, rfl, ?_⟩;rw [hf _ _ (fun p hp => ha.part h5.1 hp) (fun p hp => hb.part h5.2 hp)]
 · rw [if_neg h5, if_neg h5]; exact .inr ⟨_, _, rfl, rfl⟩
theorem sim_double (hm : mvErr m = 0) {es : List En} (hes : EsF m es) {op : Int} {a b : List Nd} (ha : GV m a) (hb : GV m b) : SimR m (doubleR es op a b) (doubleR (es.map (mvE m)) op (mvV m a) (mvV m b)) := by
 unfold doubleR;by_cases h14 : op = 14
 · rw [if_pos h14, if_pos h14, decide_eq_decide.2 (mvV_inj hm ha hb)]; exact .bool _
 rw [if_neg h14, if_neg h14];by_cases h20 : op = 20
 · rw [if_pos h20, if_pos h20]; exact (sim_in hm hes ha hb).toR
 rw [if_neg h20, if_neg h20];by_cases h25 : op = 25
 · rw [if_pos h25, if_pos h25]; exact (sim_bagHas hm ha hb).toR
 rw [if_neg h25, if_neg h25];by_cases h26 : op = 26
 · rw [if_pos h26, if_pos h26];refine (sim_bagTwo hm ha hb fun ps qs hp hq => ?_).toR;rw [all_parts, List.all_map];exact all_congr' fun q hq' => decide_eq_decide.2 (mem_mvs hm hp (hq q hq'))
 rw [if_neg h26, if_neg h26];by_cases h27 : op = 27
 · rw [if_pos h27, if_pos h27];refine (sim_bagTwo hm ha hb fun ps qs hp hq => ?_).toR;rw [any_parts, List.any_map];exact any_congr' fun q hq' => decide_eq_decide.2 (mem_mvs hm hp (hq q hq'))
 rw [if_neg h27, if_neg h27];refine SimR.mustOf hm ha 2 fun e => ?_;refine SimR.mustOf hm hb 2 fun e => ?_;rw [mvV_n hm ha, mvV_n hm hb];by_cases h15 : op = 15
 · rw [if_pos h15]; exact .bool _
 rw [if_neg h15];by_cases h16 : op = 16
 · rw [if_pos h16]; exact .bool _
 rw [if_neg h16];exact .numR _
end Go.Proofs.YtpheiojmcafolaaGreatDoor
namespace Go.Proofs.YtpheiojmcafolaaGreatDoor
open Go.RowKit
variable {m : Mv}
theorem looks5 {n : Nd} (h : n.op = 5 ∨ n.op = 6) : looksB m n = false := looks_no (by omega)
theorem sim_set (hm : mvErr m = 0) {vs : List (List Nd)} (hv : ∀ v ∈ vs, GV m v) : SimR m (setR vs) (setR (vs.map (mvV m))) := by
 have z1 : valsErr vs = 0 := valsErr_zero fun q hq => by have := (val_iff q).1 (hv q hq).ok; exact ⟨this.2, this.1⟩
 have z2 : valsErr (vs.map (mvV m)) = 0 := valsErr_zero fun q hq => by
  obtain ⟨p, hp, rfl⟩ := List.mem_map.1 hq;have := (val_iff _).1 ((hv p hp).mv hm).2.1; exact ⟨this.2, this.1⟩
 have hps : ∀ p ∈ setParts vs, GV m p := fun p hp => hv p (mem_setParts hp);have hext : setParts (vs.map (mvV m)) = setParts ((setParts vs).map (mvV m)) := setParts_ext fun p => by
  rw [List.mem_map, List.mem_map];constructor
  · rintro ⟨q, h1, h2⟩; exact ⟨q, mem_setParts'.2 h1, h2⟩
  · rintro ⟨q, h1, h2⟩; exact ⟨q, mem_setParts'.1 h1, h2⟩
 have hnd : ((setParts vs).map (mvV m)).Nodup := by
  rw [List.Nodup, List.pairwise_map];refine (setParts_pw vs).imp_of_mem ?_;intro a b ha hb hab e;have := (mvV_inj hm (hps a ha) (hps b hb)).1 e;subst this;exact ltN_irrefl _ hab
 have hlen : (setNodes (vs.map (mvV m))).length = (setNodes vs).length := by
  unfold setNodes;rw [hext, List.length_cons, List.length_cons, (setParts_perm hnd).flatten.length_eq, map_flat_len _ fun p hp => ((hps p hp).mv hm).2.2.1]
 unfold setR setOfP;rw [if_neg (by simp [z1] : ¬ valsErr vs ≠ 0), if_neg (by simp [z2] : ¬ valsErr (vs.map (mvV m)) ≠ 0), hlen];by_cases hb : 200 < (setNodes vs).length
 · rw [if_pos hb, if_pos hb]; exact .bad _ _
 · rw [if_neg hb, if_neg hb];have hok : valErr (setNodes vs) = 0 := by
    have hr : setR vs = .ok (setNodes vs) := (by unfold setR setOfP; rw [if_neg (by simp [z1] : ¬ valsErr vs ≠ 0), if_neg hb]; rfl);exact setR_vx hr
   have hg : GV m (setNodes vs) := ⟨hok, fun x hx => by
    unfold setNodes at hx;rcases List.mem_cons.1 hx with rfl | hx
    · rw [looks5 (.inl rfl)]; simp
    · obtain ⟨p, hp, hx⟩ := List.mem_flatten.1 hx;exact (hps p hp).fr x hx⟩
   have hpv : partsV (setNodes vs) = setParts vs := by
    unfold setNodes;exact kids_any _ (fun p hp => ⟨_, vx_ex ((val_iff p).1 (hps p hp).ok).2⟩) _ (Nat.le_refl _)
   have hmv : mvV m (setNodes vs) = setNodes (vs.map (mvV m)) := by
    rw [(mvV_set hm hg rfl).1, hpv];unfold setNodes;rw [hext]
   rw [← hmv];exact .ok hg
def fldN (f : ByteArray × List Nd) : List Nd := ⟨7, 0, f.1, ⟨#[]⟩⟩ :: f.2
theorem recGo_zeroM : ∀ {fs : List (ByteArray × List Nd)} {met : List (List UInt8)}, (∀ f ∈ fs, nameErr f.1.toList = 0 ∧ f.1.toList ∉ met ∧ valErr f.2 = 0) → (fs.map fun f => f.1.toList).Nodup → recGo fs met = 0
 | [], _, _, _ => rfl
 | (s, v) :: r, met, h, hn => by
  obtain ⟨h1, h2, h3⟩ := h (s, v) (by simp);rw [List.map_cons, List.nodup_cons] at hn;rw [recGo, if_neg (by simpa using h1), if_neg h2, if_neg (by simpa using h3)];refine recGo_zeroM (fun f hf => ?_) hn.2;obtain ⟨g1, g2, g3⟩ := h f (by simp [hf]);refine ⟨g1, fun hc => ?_, g3⟩;rcases List.mem_append.1 hc with hc | hc
  · exact g2 hc
  · simp at hc;exact hn.1 (List.mem_map.2 ⟨f, hf, hc⟩)
theorem rnS_name (hm : mvErr m = 0) {s : ByteArray} (h : nameErr s.toList = 0) (k : Int) : nameErr (rnS m k s).toList = 0 := by
 unfold rnS;split
 · exact (mv_ok hm).2.2
 · exact h
def mvP (m : Mv) (f : ByteArray × List Nd) : ByteArray × List Nd := (rnS m 1 f.1, mvV m f.2)
theorem mvF_fld (m : Mv) (f : ByteArray × List Nd) : mvF m (fldN f) = fldN (mvP m f) := by
 show ren m ⟨7, 0, f.1, ⟨#[]⟩⟩ :: mvV m f.2 = _;rw [ren_s1 m (.inl rfl)]; rfl
theorem sim_rec (hm : mvErr m = 0) {fs fs' : List (ByteArray × List Nd)} (hf : ∀ f ∈ fs, nameErr f.1.toList = 0 ∧ GV m f.2 ∧ (m.what = 1 → f.1.toList ≠ m.to_.toList)) (hn : (fs.map fun f => f.1.toList).Nodup) (hp : fs'.Perm (fs.map (mvP m))) :
 SimR m (recR fs) (recR fs') := by
 have z1 : recGo fs [] = 0 := recGo_zeroM (fun f hf' => ⟨(hf f hf').1, by simp, (hf f hf').2.1.ok⟩) hn;have hn1 : ((fs.map (mvP m)).map fun f => f.1.toList).Nodup := by
  rw [List.map_map, List.Nodup, List.pairwise_map];rw [List.Nodup, List.pairwise_map] at hn;refine hn.imp_of_mem ?_;intro a b ha hb hab e;have e' : rnS m 1 a.1 = rnS m 1 b.1 := toList_ext e;exact hab (congrArg ByteArray.toList ((rnS_inj (hf a ha).2.2 (hf b hb).2.2).1 e'))
 have hn2 : (fs'.map fun f => f.1.toList).Nodup := (hp.map _).nodup_iff.2 hn1;have z2 : recGo fs' [] = 0 := recGo_zeroM (fun f hf' => by
  obtain ⟨g, hg, rfl⟩ := List.mem_map.1 (hp.mem_iff.1 hf');exact ⟨rnS_name hm (hf g hg).1 1, by simp, ((hf g hg).2.1.mv hm).2.1⟩) hn2
 have hl : ∀ (l : List (ByteArray × List Nd)), (recNodes l).length = (l.map fldN).flatten.length + 1 := fun l => by
  unfold recNodes;rw [List.length_cons, (sortN_perm _).flatten.length_eq]; rfl
 have hlen : (recNodes fs').length = (recNodes fs).length := by
  rw [hl, hl, (hp.map fldN).flatten.length_eq, List.map_map];congr 1
  have : ∀ (l : List (ByteArray × List Nd)), (∀ f ∈ l, (mvV m f.2).length = f.2.length) → (l.map (fldN ∘ mvP m)).flatten.length = (l.map fldN).flatten.length := by
   intro l;induction l with
   | nil => intro _; rfl
   | cons f r ih =>
    intro h;rw [List.map_cons, List.map_cons, List.flatten_cons, List.flatten_cons, List.length_append, List.length_append, ih fun g hg => h g (by simp [hg])];have := h f (by simp);simp [fldN, mvP, this]
  exact this fs fun f hf' => ((hf f hf').2.1.mv hm).2.2.1
 unfold recR;rw [if_neg (by simp [z1] : ¬ recGo fs [] ≠ 0), if_neg (by simp [z2] : ¬ recGo fs' [] ≠ 0), hlen];by_cases hb : 200 < (recNodes fs).length
 · rw [if_pos hb, if_pos hb]; exact .bad _ _
 · rw [if_neg hb, if_neg hb];have hok : valErr (recNodes fs) = 0 := by
    have hr : recR fs = .ok (recNodes fs) := (by unfold recR; rw [if_neg (by simp [z1] : ¬ recGo fs [] ≠ 0), if_neg hb]);exact recR_vx hr
   have hg : GV m (recNodes fs) := ⟨hok, fun x hx => by
    unfold recNodes at hx;rcases List.mem_cons.1 hx with rfl | hx
    · rw [looks5 (.inr rfl)]; simp
    · obtain ⟨p, hp', hx⟩ := List.mem_flatten.1 hx;obtain ⟨f, hf', rfl⟩ := List.mem_map.1 ((sortN_perm _).mem_iff.1 hp');rcases List.mem_cons.1 hx with rfl | hx
      · intro hlk;refine (hf f hf').2.2 ?_;have : looksB m ⟨7, 0, f.1, ⟨#[]⟩⟩ = (m.what == 1) := rfl;rw [this] at hlk;simpa using hlk
      · exact (hf f hf').2.1.fr x hx⟩
   have hex : ∀ p ∈ fs.map fldN, Ex (.one true) p := fun p hp' => by
    obtain ⟨f, hf', rfl⟩ := List.mem_map.1 hp';refine fx_ex rfl ?_ (vx_ex ((val_iff _).1 (hf f hf').2.1.ok).2);have := (hf f hf').1;simp [shapedV, this, ByteArray.toList_mk]
   have hpv : partsV (recNodes fs) = sortN (fs.map fldN) := by
    unfold recNodes;exact kids_any _ (fun p hp' => ⟨_, hex p ((sortN_perm _).mem_iff.1 hp')⟩) _ (Nat.le_refl _)
   obtain ⟨k1, k2, k3⟩ := mvV_rec hm hg rfl;have hmv : mvV m (recNodes fs) = recNodes fs' := by
    rw [hpv] at k1 k3;rw [k1];unfold recNodes;have e1 : (sortN (fs.map fldN)).length = fs'.length := (by rw [(sortN_perm _).length_eq, List.length_map, hp.length_eq, List.length_map]);have e2 : sortN ((sortN (fs.map fldN)).map (mvF m)) = sortN (fs'.map fldN) := by
     refine sortN_eq ?_ k3;refine ((sortN_perm _).map _).trans ?_;rw [List.map_map];have : fs.map (mvF m ∘ fldN) = (fs.map (mvP m)).map fldN := by
      rw [List.map_map];exact List.map_congr_left fun f _ => mvF_fld m f
     rw [this];exact (hp.map fldN).symm
    rw [e1, e2]; rfl
   rw [← hmv];exact .ok hg
structure RqF (m : Mv) (q : Rq) : Prop where
 ok : rqErr q = 0
 who : FrU m q.who
 act : FrU m q.act
 what : FrU m q.what
 ctx : GV m q.ctx
def mvQ (m : Mv) (q : Rq) : Rq := ⟨mvU m q.who, mvU m q.act, mvU m q.what, mvV m q.ctx⟩
theorem rq_parts {q : Rq} (h : rqErr q = 0) : udErr q.who = 0 ∧ udErr q.act = 0 ∧ udErr q.what = 0 ∧ valErr q.ctx = 0 ∧ opH q.ctx = 6 := by
 unfold rqErr at h;split at h
 · rename_i h1; exact absurd h h1
 · rename_i h1;split at h
   · rename_i h2; exact absurd h h2
   · rename_i h2;split at h
     · rename_i h3; exact absurd h h3
     · rename_i h3;split at h
       · rename_i h4; exact absurd h h4
       · rename_i h4;split at h
         · rename_i h5; exact ⟨Classical.not_not.1 h1, Classical.not_not.1 h2, Classical.not_not.1 h3, Classical.not_not.1 h4, h5⟩
         · cases h
theorem sim_named {q : Rq} (hq : RqF m q) (s : List UInt8) : SimR m (namedR q s) (namedR (mvQ m q) s) := by
 obtain ⟨h1, h2, h3, h4, h5⟩ := rq_parts hq.ok;have he : ∀ {u : Ud}, udErr u = 0 → FrU m u → SimR m (.ok [eN u]) (.ok [eN (mvU m u)]) := fun {u} a b => by
  rw [← mvV_ent]; exact .ok (eN_gv a b)
 unfold namedR;split
 · exact he h1 hq.who
 · split
   · exact he h2 hq.act
   · split
     · exact he h3 hq.what
     · split
       · exact .ok hq.ctx
       · exact .bad _ _
def mvX (m : Mv) (xs : List Nd) : List Nd := (movGo m false xs.length xs).getD []
theorem mvX_ex (hm : mvErr m = 0) {b : Bool} {xs : List Nd} (h : Ex (.one b) xs) (hf : FrL m xs) : (∀ k, xs.length ≤ k → movGo m false k xs = some (mvX m xs)) ∧ Ex (.one b) (mvX m xs) ∧ (mvX m xs).head? = xs.head?.map (ren m) ∧ (mvX m xs).length = xs.length := by
 obtain ⟨ys, h1, h2, h3, h4⟩ := mov_ex hm h hf xs.length (Nat.le_refl _);have e : mvX m xs = ys := by unfold mvX; rw [h1]; rfl
 rw [e];refine ⟨fun k hk => ?_, h2, h3, by rw [h4.length_eq, List.length_map]⟩;rw [← h1];exact movGo_fuel m false _ xs b (Nat.le_refl _) h _ _ hk (Nat.le_refl _)
theorem mvX_node (hm : mvErr m = 0) {n : Nd} {ps : List (List Nd)} {b : Bool} (h : Ex (.one b) (n :: ps.flatten)) (hp : ∀ p ∈ ps, Ex (.one (n.op == 6)) p) (hf : FrL m (n :: ps.flatten)) :
 mvX m (n :: ps.flatten) = ren m n :: (if n.op = 6 then sortN (ps.map (mvX m)) else ps.map (mvX m)).flatten := by
 have hfp : ∀ p ∈ ps, FrL m p := fun p hpm => hf.sub fun x hx => List.mem_cons_of_mem _ (List.mem_flatten.2 ⟨p, hpm, hx⟩);have hmap : ps.map (movGo m false ps.flatten.length) = (ps.map (mvX m)).map some := by
  rw [List.map_map];exact List.map_congr_left fun p hpm => (mvX_ex hm (hp p hpm) (hfp p hpm)).1 _ (part_le hpm)
 have h0 := (mvX_ex hm h hf).1 _ (Nat.le_refl _);rw [List.length_cons, movGo_any m false _ n (fun p hpm => ⟨_, hp p hpm⟩), hmap, allSome_map] at h0;simp only at h0;by_cases h6 : n.op = 6
 · rw [if_pos h6] at h0 ⊢;split at h0
   · injection h0 with h0; rw [h0]
   · cases h0
 · rw [if_neg h6] at h0 ⊢;rw [if_neg (by simp)] at h0;injection h0 with h0; rw [h0]
theorem mvX_fld (hm : mvErr m = 0) {p : List Nd} (h : Ex (.one true) p) (hf : FrL m p) : ∃ f v, p = f :: v ∧ f.op = 7 ∧ nameErr f.s.toList = 0 ∧ Ex (.one false) v ∧ mvX m p = ren m f :: mvX m v := by
 obtain ⟨f, v, rfl, hs, h7⟩ := ex_ne h;have h7' : f.op = 7 := by simpa using h7
 have hv : Ex (.one false) v := (fld_tail h).1;refine ⟨f, v, rfl, h7', fld_name hs h7', hv, ?_⟩;have h0 := (mvX_ex hm h hf).1 _ (Nat.le_refl _);rw [List.length_cons, fld_step m false _ hv h7', (mvX_ex hm hv (hf.sub fun x hx => List.mem_cons_of_mem _ hx)).1 _ (Nat.le_refl _)] at h0;injection h0 with h0
 exact h0.symm
theorem allR_good {α : Type} {f : α → Rs (List Nd)} {g : α → List Nd} : ∀ {l : List α}, (∀ x ∈ l, f x = .ok (g x)) → allR (l.map f) = .ok (l.map g)
 | [], _ => rfl
 | x :: l, h => by
  rw [List.map_cons, allR, h x (by simp)];show (allR (l.map f)).bind _ = _;rw [allR_good fun y hy => h y (by simp [hy])]; rfl
theorem allR_some {α : Type} {f : α → Rs (List Nd)} : ∀ {l : List α} {x : α} {k : Int}, x ∈ l → f x = .bad k → ∃ k', allR (l.map f) = .bad k'
 | y :: l, x, k, hx, hk => by
  rw [List.map_cons, allR];cases hy : f y with
  | bad k' => exact ⟨k', rfl⟩
  | ok v =>
   rcases List.mem_cons.1 hx with rfl | hx
   · rw [hy] at hk; cases hk
   · obtain ⟨k', e⟩ := allR_some hx hk;refine ⟨k', ?_⟩;show (allR (l.map f)).bind _ = _;rw [e]; rfl
def valR (r : Rs (List Nd)) : List Nd := match r with | .ok v => v | .bad _ => []
theorem sims {α : Type} {f f' : α → Rs (List Nd)} {l : List α} (h : ∀ x ∈ l, SimR m (f x) (f' x)) : (∀ x ∈ l, ∃ v, f x = .ok v ∧ GV m v ∧ f' x = .ok (mvV m v)) ∨ ∃ x ∈ l, ∃ k k', f x = .bad k ∧ f' x = .bad k' := by
 by_cases hb : ∃ x ∈ l, ∃ k k', f x = .bad k ∧ f' x = .bad k'
 · exact .inr hb
 · refine .inl fun x hx => ?_;rcases h x hx with h | ⟨k, k', h1, h2⟩
   · exact h
   · exact absurd ⟨x, hx, k, k', h1, h2⟩ hb
theorem sim_ev (hm : mvErr m = 0) {es : List En} (hes : EsF m es) {q : Rq} (hq : RqF m q) : ∀ (N : Nat) (xs : List Nd), xs.length ≤ N → Ex (.one false) xs → FrL m xs → SimR m (evX es q xs) (evX (es.map (mvE m)) (mvQ m q) (mvX m xs))
 | 0, xs, hN, h, _ => by
  obtain ⟨x, y, e, _⟩ := ex_ne h;rw [e] at hN; simp at hN
 | N + 1, xs, hN, h, hf => by
  obtain ⟨n, ps, rfl, h7, hs, hc, hex⟩ := ex_cutE h;have hfp : ∀ p ∈ ps, FrL m p := fun p hpm => hf.sub fun x hx => List.mem_cons_of_mem _ (List.mem_flatten.2 ⟨p, hpm, hx⟩);rw [List.length_cons] at hN;rw [mvX_node hm h hex hf, evX_node es q hex];have hop := (ren_op m n).1;by_cases h6 : n.op = 6
  · rw [if_pos h6];have e6 : (n.op == 6) = true := (by simp [h6]);rw [e6] at hex;have hfl : ∀ p ∈ ps, ∃ f v, p = f :: v ∧ f.op = 7 ∧ nameErr f.s.toList = 0 ∧ Ex (.one false) v ∧ mvX m p = ren m f :: mvX m v := fun p hp => mvX_fld hm (hex p hp) (hfp p hp);have hexq : ∀ p ∈ sortN (ps.map (mvX m)), Ex (.one ((ren m n).op == 6)) p := fun p hp => by
     obtain ⟨p', hp', rfl⟩ := List.mem_map.1 ((sortN_perm _).mem_iff.1 hp);rw [hop, e6];exact (mvX_ex hm (hex p' hp') (hfp p' hp')).2.1
    rw [evX_node _ _ hexq];unfold nodeR;rw [hop, if_neg (by omega), if_neg (by omega), if_neg (by omega), if_neg (by omega), show (n.op == 5) = false from by simp [h6], e6];simp only;have hsim : ∀ p ∈ ps, SimR m (evX es q p.tail) (evX (es.map (mvE m)) (mvQ m q) (mvX m p).tail) := fun p hp => by
     obtain ⟨f, v, rfl, _, _, hv, e⟩ := hfl p hp;rw [e];exact sim_ev hm hes hq N v (by have := part_le hp; rw [List.length_cons] at this; omega) hv ((hfp _ hp).sub fun x hx => List.mem_cons_of_mem _ hx)
    have hpw : (namesOf ps).Nodup := by
     cases h with
     | one x body _ hs' h7' hbd =>
      obtain ⟨ps', hc', e', hK⟩ := ex_pieces hbd;rw [e6] at hK;have : ps' = ps := by
       have a1 := kids_any ps' (fun p hp => ⟨_, exk_all hK p hp⟩) _ (Nat.le_refl _);have a2 := kids_any ps (fun p hp => ⟨_, hex p hp⟩) _ (Nat.le_refl _);rw [← e', a2] at a1;exact a1.symm
      rw [← this];exact pw_nodup (rise_names hK)
    rcases sims hsim with hall | ⟨p, hp, k, k', b1, b2⟩
    · have g1 : ∀ p ∈ ps, evX es q p.tail = .ok (valR (evX es q p.tail)) := fun p hp => by obtain ⟨v, e, _⟩ := hall p hp; rw [e]; rfl
      have g2 : ∀ p ∈ ps, GV m (valR (evX es q p.tail)) ∧ evX (es.map (mvE m)) (mvQ m q) (mvX m p).tail = .ok (mvV m (valR (evX es q p.tail))) := fun p hp => by
       obtain ⟨v, e, h1, h2⟩ := hall p hp; rw [e]; exact ⟨h1, h2⟩
      have g3 : ∀ p ∈ sortN (ps.map (mvX m)), evX (es.map (mvE m)) (mvQ m q) p.tail = .ok (valR (evX (es.map (mvE m)) (mvQ m q) p.tail)) := fun p hp => by
       obtain ⟨p', hp', rfl⟩ := List.mem_map.1 ((sortN_perm _).mem_iff.1 hp);rw [(g2 p' hp').2]; rfl
      rw [allR_good g1, allR_good g3];show SimR m (recR ((ps.map sH).zip (ps.map fun p => valR (evX es q p.tail)))) (recR (((sortN (ps.map (mvX m))).map sH).zip ((sortN (ps.map (mvX m))).map fun p => valR (evX (es.map (mvE m)) (mvQ m q) p.tail))));have hz : ∀ {α : Type} (l : List α) (f : α → ByteArray) (g : α → List Nd), (l.map f).zip (l.map g) = l.map fun x => (f x, g x) := by
       intro α l f g;induction l with
       | nil => rfl
       | cons x r ih => simp [ih]
      rw [hz, hz];refine sim_rec hm (fun f hf' => ?_) ?_ ?_
      · obtain ⟨p, hp, rfl⟩ := List.mem_map.1 hf';obtain ⟨f, v, rfl, f7, fn, hv, e⟩ := hfl p hp;refine ⟨fn, (g2 _ hp).1, fun hw => hfp _ hp f (by simp) ?_⟩;unfold looksB; rw [if_pos (.inl f7), hw]; rfl
      · rw [List.map_map];have : ps.map ((fun f : ByteArray × List Nd => f.1.toList) ∘ fun p => (sH p, valR (evX es q p.tail))) = namesOf ps := by
         unfold namesOf;exact List.map_congr_left fun p _ => by show (sH p).toList = _; rw [sH_headS]
        rw [this]; exact hpw
      · rw [List.map_map];refine ((sortN_perm _).map _).trans ?_;rw [List.map_map];refine List.Perm.of_eq (List.map_congr_left fun p hp => ?_);show (sH (mvX m p), valR (evX (es.map (mvE m)) (mvQ m q) (mvX m p).tail)) = mvP m (sH p, valR (evX es q p.tail));rw [(g2 p hp).2];obtain ⟨f, v, rfl, f7, fn, hv, e⟩ := hfl p hp;have : sH (mvX m (f :: v)) = rnS m 1 f.s := by
         rw [e];show (ren m f).s = _;rw [ren_s1 m (.inl f7)]
        rw [this]; rfl
    · obtain ⟨k1, e1⟩ := allR_some (f := fun p => evX es q p.tail) hp b1;obtain ⟨k2, e2⟩ := allR_some (f := fun p => evX (es.map (mvE m)) (mvQ m q) p.tail) (l := sortN (ps.map (mvX m))) ((sortN_perm _).mem_iff.2 (List.mem_map_of_mem hp)) b2;rw [e1, e2];exact .bad _ _
  · rw [if_neg h6];have e6 : (n.op == 6) = false := (by simp [h6]);rw [e6] at hex;have hexq : ∀ p ∈ ps.map (mvX m), Ex (.one ((ren m n).op == 6)) p := fun p hp => by
     obtain ⟨p', hp', rfl⟩ := List.mem_map.1 hp;rw [hop, e6];exact (mvX_ex hm (hex p' hp') (hfp p' hp')).2.1
    rw [evX_node _ _ hexq];have hsim : ∀ p ∈ ps, SimR m (evX es q p) (evX (es.map (mvE m)) (mvQ m q) (mvX m p)) := fun p hp =>
     sim_ev hm hes hq N p (by have := part_le hp; omega) (hex p hp) (hfp p hp)
    unfold nodeR;rw [hop];by_cases hl : n.op = 1 ∨ n.op = 2 ∨ n.op = 3 ∨ n.op = 4
    · rw [if_pos hl, if_pos hl];have hg : GV m [n] := ⟨shapedT_V hs hl, fun x hx => by simp at hx; subst hx; exact hf x (by simp)⟩;have := SimR.ok hg;rwa [mvV_leaf m (by omega) (by omega)] at this
    rw [if_neg hl, if_neg hl];by_cases h8 : n.op = 8
    · rw [if_pos h8, if_pos h8, ren_id (looks_no (by omega))];exact sim_named hq _
    rw [if_neg h8, if_neg h8, e6];cases e5 : (n.op == 5) with
    | true =>
     simp only;rcases sims hsim with hall | ⟨p, hp, k, k', b1, b2⟩
     · have g1 : ∀ p ∈ ps, evX es q p = .ok (valR (evX es q p)) := fun p hp => by obtain ⟨v, e, _⟩ := hall p hp; rw [e]; rfl
       have g2 : ∀ p ∈ ps, GV m (valR (evX es q p)) ∧ evX (es.map (mvE m)) (mvQ m q) (mvX m p) = .ok (mvV m (valR (evX es q p))) := fun p hp => by
        obtain ⟨v, e, h1, h2⟩ := hall p hp; rw [e]; exact ⟨h1, h2⟩
       rw [allR_good g1, List.map_map, allR_good (f := evX (es.map (mvE m)) (mvQ m q) ∘ mvX m) (g := fun p => mvV m (valR (evX es q p))) fun p hp => (g2 p hp).2];show SimR m (setR (ps.map fun p => valR (evX es q p))) (setR (ps.map fun p => mvV m (valR (evX es q p))));have : ps.map (fun p => mvV m (valR (evX es q p))) = (ps.map fun p => valR (evX es q p)).map (mvV m) := (by rw [List.map_map]; rfl);rw [this];exact sim_set hm fun v hv => by obtain ⟨p, hp, rfl⟩ := List.mem_map.1 hv; exact (g2 p hp).1
     · obtain ⟨k1, e1⟩ := allR_some (f := evX es q) hp b1;obtain ⟨k2, e2⟩ := allR_some (f := evX (es.map (mvE m)) (mvQ m q)) (l := ps.map (mvX m)) (List.mem_map_of_mem hp) b2;rw [e1, e2];exact .bad _ _
    | false =>
     have h5 : ¬ n.op = 5 := (by simpa using e5);have h7' : ¬ n.op = 7 := (by simpa using h7);match ps, hc, hsim with
     | [], _, _ => exact .bad _ _
     | [a], hc, hsim =>
      simp only [List.map_cons, List.map_nil];have ho : n.op = 9 ∨ n.op = 10 ∨ n.op = 21 ∨ n.op = 22 ∨ n.op = 23 ∨ n.op = 24 := by
       unfold ndParts at hc;rw [if_neg (by omega), if_neg (by omega)] at hc;by_cases h1 : n.op = 7 ∨ n.op = 9 ∨ n.op = 10 ∨ n.op = 21 ∨ n.op = 22 ∨ n.op = 23 ∨ n.op = 24
       · omega
       · rw [if_neg h1] at hc;split at hc
         · simp at hc
         · split at hc <;> simp at hc
      exact (hsim a (by simp)).bind fun v hv => sim_single hm hes ho (hf n (by simp)) hv
     | [a, b], hc, hsim =>
      simp only [List.map_cons, List.map_nil];have ha := hsim a (by simp);have hb := hsim b (by simp);by_cases h11 : n.op = 11 ∨ n.op = 12
      · rw [if_pos h11, if_pos h11]; exact sim_either hm ha hb
      · rw [if_neg h11, if_neg h11];exact ha.bind fun u hu => hb.bind fun v hv => sim_double hm hes hu hv
     | [c, a, b], hc, hsim => exact sim_choice hm (hsim c (by simp)) (hsim a (by simp)) (hsim b (by simp))
     | a :: b :: c :: d :: r, _, _ => exact .bad _ _
end Go.Proofs.YtpheiojmcafolaaGreatDoor
namespace Go.Proofs.YtpheiojmcafolaaGreatDoor
open Go.RowKit
variable {m : Mv}
theorem mvU_ok (hm : mvErr m = 0) {u : Ud} (h : udErr u = 0) : udErr (mvU m u) = 0 := by
 unfold udErr at h ⊢;show (if nameErr (rnS m 2 u.ty).toList = 0 then textErr u.id.toList else nameErr (rnS m 2 u.ty).toList) = 0;by_cases h1 : nameErr u.ty.toList = 0
 · rw [if_pos h1] at h;rw [if_pos (rnS_name hm h1 2)]; exact h
 · rw [if_neg h1] at h; exact absurd h h1
theorem upAt_mv (hm : mvErr m = 0) {ups : List Ud} (hf : ∀ p ∈ ups, FrU m p) {i : Nat} (h : upAt ups i = 0) : upAt (ups.map (mvU m)) i = 0 := by
 unfold upAt at h ⊢;rw [List.getElem?_map];cases hp : ups[i]? with
 | none => rfl
 | some p =>
  rw [hp] at h;simp only [Option.map_some] at h ⊢;have hpm := List.mem_of_getElem? hp;split at h
  · rename_i h1; exact absurd h h1
  · rename_i h1;split at h
    · cases h
    · rename_i h2;rw [if_neg (by simpa using mvU_ok hm (Classical.not_not.1 h1)), if_neg];rw [← List.map_take, mem_mv (fun x hx => hf x (List.mem_of_mem_take hx)) (hf p hpm)];exact h2
theorem upsErr_mv (hm : mvErr m = 0) {ups : List Ud} (hf : ∀ p ∈ ups, FrU m p) (h : upsErr ups = 0) : upsErr (ups.map (mvU m)) = 0 := by
 unfold upsErr at h ⊢;rw [List.length_map];exact fnz_zero fun i hi => upAt_mv hm hf (fnz_all h i hi)
theorem entAt_mv (hm : mvErr m = 0) {es : List En} (hes : EsF m es) {i : Nat} (h : entAt es i = 0) : entAt (es.map (mvE m)) i = 0 := by
 unfold entAt at h ⊢;rw [List.getElem?_map];cases he : es[i]? with
 | none => rfl
 | some e =>
  rw [he] at h;simp only [Option.map_some] at h ⊢;have hem := List.mem_of_getElem? he;split at h
  · rename_i h1; exact absurd h h1
  · rename_i h1;split at h
    · cases h
    · rename_i h2;have h2' : ¬ (mvE m e).u ∈ ((es.map (mvE m)).take i).map En.u := by
       rw [← List.map_take, List.map_map];have : (es.take i).map (En.u ∘ mvE m) = ((es.take i).map En.u).map (mvU m) := (by rw [List.map_map]; rfl);rw [this];show ¬ mvU m e.u ∈ _;rw [mem_mv (fun x hx => by obtain ⟨y, hy, rfl⟩ := List.mem_map.1 hx; exact hes.u y (List.mem_of_mem_take hy)) (hes.u e hem)];exact h2
      have h1' : udErr (mvE m e).u = 0 := mvU_ok hm (Classical.not_not.1 h1);rw [if_neg (by simpa using h1'), if_neg h2'];unfold entOne at h ⊢;show (if 6 < (e.up.map (mvU m)).length then (4 : Int) else if upsErr (e.up.map (mvU m)) ≠ 0 then upsErr (e.up.map (mvU m)) else if valErr (mvV m e.at_) ≠ 0 then valErr (mvV m e.at_) else if opH (mvV m e.at_) = 6 then 0 else 2) = 0;have hg := hes.at_ e hem;rw [List.length_map];split at h
      · cases h
      · rename_i h3;rw [if_neg h3];split at h
        · rename_i h4; exact absurd h h4
        · rename_i h4;rw [if_neg (by simpa using upsErr_mv hm (hes.up e hem) (Classical.not_not.1 h4)), if_neg (by simpa using (hg.1.mv hm).2.1), if_pos (by rw [mvV_op hm hg.1]; exact hg.2)]
theorem entErr_mv (hm : mvErr m = 0) {es : List En} (hes : EsF m es) (h : entErr es = 0) : entErr (es.map (mvE m)) = 0 := by
 unfold entErr at h ⊢;rw [List.length_map, cyc_mv hes];split at h
 · cases h
 · rename_i h1;rw [if_neg h1];split at h
   · rename_i h2; exact absurd h h2
   · rename_i h2;have h3 : fnz (entAt (es.map (mvE m))) es.length = 0 := fnz_zero fun i hi => entAt_mv hm hes (fnz_all (Classical.not_not.1 h2) i hi);rw [if_neg (by simpa using h3)];exact h
theorem rqErr_mv (hm : mvErr m = 0) {q : Rq} (hq : RqF m q) : rqErr (mvQ m q) = 0 := by
 obtain ⟨h1, h2, h3, h4, h5⟩ := rq_parts hq.ok;unfold rqErr;show (if udErr (mvU m q.who) ≠ 0 then udErr (mvU m q.who) else if udErr (mvU m q.act) ≠ 0 then udErr (mvU m q.act) else if udErr (mvU m q.what) ≠ 0 then udErr (mvU m q.what) else if valErr (mvV m q.ctx) ≠ 0 then valErr (mvV m q.ctx) else if opH (mvV m q.ctx) = 6 then 0 else 2) = 0;rw [if_neg (by simpa using mvU_ok hm h1), if_neg (by simpa using mvU_ok hm h2), if_neg (by simpa using mvU_ok hm h3), if_neg (by simpa using (hq.ctx.mv hm).2.1), if_pos (by rw [mvV_op hm hq.ctx]; exact h5)]
theorem treeErr_mv (hm : mvErr m = 0) {e : List Nd} (h : treeErr e = 0) (hf : FrL m e) : treeErr (mvX m e) = 0 := by
 obtain ⟨h1, h2⟩ := (tree_iff e).1 h;obtain ⟨_, a2, _, a4⟩ := mvX_ex hm h2 hf;exact (tree_iff _).2 ⟨by omega, a2⟩
theorem move_means (hm : mvErr m = 0) {es : List En} (hes : EsF m es) (h0 : entErr es = 0) {q : Rq} (hq : RqF m q) {e : List Nd} (ht : treeErr e = 0) (hf : FrL m e) :
 SimR m (valueR es q e) (valueR (es.map (mvE m)) (mvQ m q) (mvX m e)) := by
 unfold valueR;rw [if_neg (by simp [h0]), if_neg (by simp [hq.ok]), if_neg (by simp [ht]), if_neg (by simp [entErr_mv hm hes h0]), if_neg (by simp [rqErr_mv hm hq]), if_neg (by simp [treeErr_mv hm ht hf])];exact sim_ev hm hes hq _ e (Nat.le_refl _) ((tree_iff e).1 ht).2 hf
theorem exprM_mv (hm : mvErr m = 0) {e : List Nd} (ht : treeErr e = 0) (hf : FrL m e) : movE m e = some (mvX m e) :=
 (mvX_ex hm ((tree_iff e).1 ht).2 hf).1 _ (Nat.le_refl _)
theorem valM_mv (hm : mvErr m = 0) {v : List Nd} (h : GV m v) : movV m v = some (mvV m v) := (h.mv hm).1
end Go.Proofs.YtpheiojmcafolaaGreatDoor
namespace Go.Proofs.YtpheiojmcafolaaGreatDoor
open Go.RowKit Go.Sort
set_option maxHeartbeats 800000 in
theorem same_Nodes (xs : List Nd) (A1 A2 : Option Addr) (c1 c2 : Nat) (w : World) (h1 : NdSl w w.heap.size A1 xs) (h2 : NdSl w w.heap.size A2 xs) (l1 : xs.length ≤ 9223372036854775807) :
 Calls Tryz.prog 20 #[.slice A1 xs.length c1, .slice A2 xs.length c2] w fun r w' => r = .returned (.bool true) ∧ RowKit.Below w.heap.size w w' := by
 have H1 := Lib.hid h1;have H2 := Lib.hid h2;have hne : ((xs.length : Int) != (xs.length : Int)) = false := by simp
 clear h1 h2;go_enter Tryz.func20, Tryz.ntmps20
 go_wp2_with fail
 go_loopw [5] (fun kk wr => ∃ k : Nat, kk = .int .i64 k ∧ k ≤ xs.length ∧ RowKit.Below w.heap.size w wr) (fun kk _ => xs.length - (intOf kk).toNat)
 case atStart => exact ⟨0, rfl, by omega, RowKit.Below.refl _ _⟩
 case round =>
  obtain ⟨k, rfl, hk, hbr⟩ := hrel;by_cases hlt : k < xs.length
  · obtain ⟨b, o, rfl, hb, hcs⟩ := (H1.out.below hbr).at_ hlt;obtain ⟨b2, o2, rfl, hb2, hcs2⟩ := (H2.out.below hbr).at_ hlt;obtain ⟨x, hx⟩ : ∃ x, xs[k]? = some x := ⟨_, List.getElem?_eq_getElem hlt⟩;obtain ⟨d0, d1, d2, d3⟩ := hcs k x hx;obtain ⟨f0, f1, f2, f3⟩ := hcs2 k x hx;clear hcs hcs2 hx;go_wp2_with fail
    go_quiet (fail)
    go_wp2_with fail
    exact ⟨⟨k + 1, by go_num, by omega, below_drewN hbr _⟩, by simp [intOf]; omega⟩
  · go_wp2_with fail
    go_ret
    exact ⟨rfl, hbr⟩
end Go.Proofs.YtpheiojmcafolaaGreatDoor
namespace Go.Proofs.YtpheiojmcafolaaGreatDoor
open Go.RowKit
theorem one_valM {x : Nd} (h : x.op = 1 ∨ x.op = 2 ∨ x.op = 3 ∨ x.op = 4) : (valErr [x] == 0) = shapedV x := by
 have h5 : ¬ x.op = 5 := by omega
 have h6 : ¬ x.op = 6 := by omega
 have h7 : ¬ x.op = 7 := by omega
 cases hs : shapedV x <;> simp [valErr, vGo, hs, h5, h6, h7]
theorem ex_shaped {t : BTag} {xs : List Nd} (h : Ex t xs) : ∀ n ∈ xs, shapedT n = true := by
 induction h with
 | one n body fld hs _ _ ih =>
  intro m hm;rcases List.mem_cons.1 hm with rfl | hm
  · exact hs
  · exact ih m hm
 | nil => simp
 | cons c r l m xs ys _ _ _ ih1 ih2 =>
  intro n hn;rcases List.mem_append.1 hn with hn | hn
  · exact ih1 n hn
  · exact ih2 n hn
end Go.Proofs.YtpheiojmcafolaaGreatDoor
namespace Go.Proofs.YtpheiojmcafolaaGreatDoor
open Go.RowKit
theorem nm_size {s : ByteArray} (h : nameErr s.toList = 0) : s.size ≤ 140737488351232 := by
 rw [← toList_len];unfold nameErr at h;(repeat' split at h) <;> first | omega | cases h | simp_all
theorem tx_size {s : ByteArray} (h : textErr s.toList = 0) : s.size ≤ 140737488351232 := by
 rw [← toList_len];unfold textErr at h;split at h
 · cases h
 · omega
theorem emp_size {s : ByteArray} (h : s.toList.isEmpty = true) : s.size ≤ 140737488351232 := by
 rw [← toList_len];have : s.toList = [] := by simpa using h
 rw [this]; simp
theorem shapedV_size {x : Nd} (h : shapedV x = true) : x.s.size ≤ 140737488351232 ∧ x.t.size ≤ 140737488351232 := by
 unfold shapedV at h;split at h
 · simp only [Bool.and_eq_true] at h; exact ⟨emp_size h.1.2, emp_size h.2⟩
 · split at h
   · simp only [Bool.and_eq_true] at h; exact ⟨emp_size h.1, emp_size h.2⟩
   · split at h
     · simp only [Bool.and_eq_true, beq_iff_eq] at h; exact ⟨tx_size h.2, emp_size h.1.2⟩
     · split at h
       · simp only [Bool.and_eq_true, beq_iff_eq] at h; exact ⟨nm_size h.1.2, tx_size h.2⟩
       · split at h
         · simp only [Bool.and_eq_true] at h; exact ⟨emp_size h.1.2, emp_size h.2⟩
         · split at h
           · simp only [Bool.and_eq_true, beq_iff_eq] at h; exact ⟨nm_size h.2, emp_size h.1.2⟩
           · cases h
theorem shapedT_size {x : Nd} (h : shapedT x = true) : x.s.size ≤ 140737488351232 ∧ x.t.size ≤ 140737488351232 := by
 unfold shapedT at h;split at h
 · have hv : valErr [x] = 0 := by simpa using h
   obtain ⟨y, r, e, hs, _⟩ := ((val_iff [x]).1 hv).2.ne;injection e with e1 e2
   subst e1;exact shapedV_size hs
 · split at h
   · simp only [Bool.and_eq_true] at h; exact ⟨emp_size h.1.2, emp_size h.2⟩
   · split at h
     · simp only [Bool.and_eq_true] at h;refine ⟨?_, emp_size h.1.2⟩;have hv := h.2;rw [← toList_len];unfold variableB at hv;split at hv
       · rename_i he; rw [he]; simp
       · rename_i c r he;split at hv
         · have hn : nameErr r = 0 := (by simpa using hv);have := nm_size (s := ⟨r.toArray⟩) (by rw [ByteArray.toList_eq]; simpa using hn);rw [← toList_len, ByteArray.toList_eq] at this;have h20 : r.length ≤ 20 := by
            unfold nameErr at hn;(repeat' split at hn) <;> first | omega | cases hn | simp_all
           rw [he]; simp; omega
         · simp only [Bool.and_eq_true, beq_iff_eq] at hv;have := nm_size (s := x.s) (by rw [he]; exact hv.1);rw [← toList_len] at this;exact this
     · split at h
       · simp only [Bool.and_eq_true, beq_iff_eq] at h; exact ⟨nm_size h.2, emp_size h.1.2⟩
       · split at h
         · simp only [Bool.and_eq_true, beq_iff_eq] at h; exact ⟨tx_size h.2, emp_size h.1.2⟩
         · simp only [Bool.and_eq_true] at h; exact ⟨emp_size h.1.2, emp_size h.2⟩
theorem ex_nok {t : BTag} {xs : List Nd} (h : Ex t xs) : NdOk xs := fun x hx => shapedT_size (ex_shaped h x hx)
theorem tree_nok {e : List Nd} (h : treeErr e = 0) : NdOk e := ex_nok ((tree_iff e).1 h).2
theorem fresh_ok {m : Mv} {e : List Nd} (h1 : (freshV m e).2 = 0) (h2 : (freshV m e).1 = true) : mvErr m = 0 ∧ treeErr e = 0 ∧ freshB m e = true := by
 unfold freshV at h1 h2;split at h1
 · rename_i h; exact absurd h1 h
 · rename_i hm;rw [if_neg hm] at h2;split at h1
   · rename_i h; exact absurd h1 h
   · rename_i he;rw [if_neg he] at h2;exact ⟨by simpa using hm, by simpa using he, h2⟩
theorem exprM_ok {m : Mv} {e x : List Nd} (hm : mvErr m = 0) (he : treeErr e = 0) (h : movE m e = some x) : exprM m e = (x, 0) := by
 unfold exprM;rw [if_neg (by simp [hm]), if_neg (by simp [he]), h];rfl
def mR : Mv := ⟨1, ⟨#[97]⟩, ⟨#[98]⟩⟩
def eR : List Nd := [⟨22, 0, ⟨#[97]⟩, ⟨#[]⟩⟩, ⟨8, 0, ⟨#[99, 111, 110, 116, 101, 120, 116]⟩, ⟨#[]⟩⟩]
theorem mR_ok : mvErr mR = 0 := by simp [mR, mvErr, nameErr, nameB, letterI, digitI, ByteArray.toList_mk]
theorem eR_ok : treeErr eR = 0 := by
 simp [eR, treeErr, bGo, shapedT, ndParts, variableB, nameErr, nameB, letterI, digitI, reserved, ByteArray.toList_mk]
theorem eR_mov : movE mR eR = some [⟨22, 0, ⟨#[98]⟩, ⟨#[]⟩⟩, ⟨8, 0, ⟨#[99, 111, 110, 116, 101, 120, 116]⟩, ⟨#[]⟩⟩] := by
 simp [eR, mR, movE, movGo, kidsGo, skP, ndParts, allSome, ren, looksB, ByteArray.toList_mk]
theorem mv_name (s : ByteArray) (w : World) : Calls Tryz.prog 43 #[.string s] w fun r w' => r = .returned (.agg #[.int .i64 8, .int .i64 0, .string s, .string ⟨#[]⟩]) ∧ Below w.heap.size w w' := by
 go_enter Tryz.func43, Tryz.ntmps43
 go_wp2_with fail
 exact bodyPost_ret (v := .agg #[.int .i64 8, .int .i64 0, .string s, .string ⟨#[]⟩]) (by simp [results, Tryz.results43, go_sem]) rfl ⟨rfl, by (repeat (first | assumption | exact Below.refl _ _ | apply Below.drew | apply below_drewN | (refine Below.alloc ?_ (by first | exact Nat.le_refl _ | omega | (simp; done) | (simp; omega)) _)))⟩
set_option maxRecDepth 100000 in
set_option maxHeartbeats 1600000 in
theorem law_renamed (w : World) : Calls Tryz.prog 25 #[] w fun r w' => r = .returned (.bool true) ∧ Below w.heap.size w w' := by
 have HX := Lib.hid (fun W A (hsl : NdSl W W.heap.size A eR) => by
  have h := move_Expr mR eR A 2 W ⟨by simp [mR]; decide, by simp [mR]; decide⟩ (by simp [eR]) (by omega) (tree_nok eR_ok) hsl;rw [exprM_ok mR_ok eR_ok eR_mov] at h;exact h)
 have HE : Hid (∀ (w1 : World), NdSl (w1.alloc (.cells #[.int .i64 22, .int .i64 0, .string ⟨#[97]⟩, .string ⟨#[]⟩, .int .i64 8, .int .i64 0, .string ⟨#[99, 111, 110, 116, 101, 120, 116]⟩, .string ⟨#[]⟩] 37)) (w1.heap.size + 1) (some ⟨w1.heap.size, 0, none⟩) eR) := by
  intro w1;refine NdSl.of_flat (by omega) (fun j u hu => ?_);have h := (Blk.new w1 37 #[.int .i64 22, .int .i64 0, .string ⟨#[97]⟩, .string ⟨#[]⟩, .int .i64 8, .int .i64 0, .string ⟨#[99, 111, 110, 116, 101, 120, 116]⟩, .string ⟨#[]⟩]).cell j;rw [h, ← hu];rw [← Array.getElem?_toList];rfl
 go_enter Tryz.func25, Tryz.ntmps25
 go_wp2_with fail
 refine (mv_name _ _).mono ?_;rintro r w1 ⟨rfl, hb1⟩;go_wp2_with fail
 refine (HX.out _ _ (by have := HE.out w1; simpa using this)).mono ?_;rintro r w2 ⟨A2, c2, rfl, h1, h2, h3, hb2⟩;obtain ⟨b, o, rfl, hb, hcs⟩ := h3 (by simp);have d2 := (hcs 0 _ rfl).c2;rw [Nat.zero_mul, Nat.add_zero] at d2;have hw2 : Below w.heap.size w w2 := hb1.trans (((by (repeat (first | assumption | exact Below.refl _ _ | apply Below.drew | apply below_drewN | (refine Below.alloc ?_ (by first | exact Nat.le_refl _ | omega | (simp; done) | (simp; omega)) _))) : Below w1.heap.size w1 _).trans (hb2.mono (by simp))).mono hb1.size);have t0 := errV_zero;clear hb1 hb2 hcs h3;simp only [t0];go_wp2_with fail
 go_ret
 exact ⟨rfl, hw2⟩
end Go.Proofs.YtpheiojmcafolaaGreatDoor
namespace Go.Proofs.YtpheiojmcafolaaGreatDoor
open Go.RowKit Go.Sort
set_option maxRecDepth 100000 in
set_option maxHeartbeats 4000000 in
theorem mpart_set (m : Mv) (hm : mvErr m = 0) (vals : Bool) (hvals : vals = true) (k : Nat) (e : List Nd) (x : Nd) (ps : List (List Nd)) (hP : Pcs m vals k e x ps) (hek : e.length ≤ k + 1) (h5 : x.op = 5) (hvx : ∀ p ∈ ps, Vx p) : PartM m vals (k + 1) e := by
 intro w A c hc hcm hsl;obtain ⟨i0, hi, hz0, hz1, hz2⟩ := info_parts kid_info;obtain ⟨j0, hj, hy0, hy1, hy2⟩ := info_parts nd_info;obtain ⟨o, ho⟩ : ∃ o, movGo m vals (k + 1) e = o := ⟨_, rfl⟩;have h6 : ¬ x.op = 6 := by omega
 have HV : Hid (o = match allSome (ps.map (movGo m vals k)) with | none => none | some qs => some (setOfP qs).1) := by
  show _ = _;rw [← ho, hP.he, movGo_any m vals k x hP.ex];cases allSome (ps.map (movGo m vals k)) with
  | none => rfl
  | some qs =>
   simp only;rw [if_neg h6, if_pos ⟨h5, hvals⟩]
 have HVX : Hid (∀ p ∈ ps, ∀ q, movGo m vals k p = some q → Vx q) := fun p hp q hq => by
  have hle := mem_len hp;have h1 := hP.len.1;have h2 := hP.hl;rw [hvals] at hq;rcases vx_mov hm (hvx p hp) (by omega) k (by omega) with h | ⟨ys, h, h', _⟩
  · rw [h] at hq; cases hq
  · rw [h] at hq; injection hq with hq; subst hq; exact h'
 rw [ho];obtain ⟨n1, n2, n3⟩ := hP.len;have hne : e ≠ [] := by rw [hP.he]; simp
 obtain ⟨b, of, rfl, hb, hcs⟩ := hsl hne;obtain ⟨d0, d1, d2, d3⟩ := hcs 0 x (by rw [hP.he]; rfl);rw [Nat.zero_mul, Nat.add_zero] at d0 d1 d2 d3;have hel := hP.hl;have HP := Lib.hid hP;have HS := Lib.hid hsl;have HL1 := Lib.hid n1;have HNE := Lib.hid n3;have hps : ps.length ≤ 199 := n2;have he0 : (0 : Int) < (e.length : Int) := by omega
 have e6 : (x.op == 6) = false := by simp [h6]
 have e5 : (x.op == 5) = true := by simp [h5]
 have HVS := Lib.hid hvals;clear h6 h5 hvx hek hvals;clear hP hsl n1 n2 n3 ho hne hcs;go_enter Tryz.func101, Tryz.ntmps101
 go_wp2_with fail
 obtain ⟨W, hW⟩ : ∃ W, w.alloc (.cells #[.int .i64 m.what, .string m.fr, .string m.to_, .bool vals] 128) = W := ⟨_, rfl⟩;have hbW : RowKit.Below w.heap.size w W := by rw [← hW]; (repeat (first | assumption | exact Below.refl _ _ | apply Below.drew | apply below_drewN | (refine Below.alloc ?_ (by first | exact Nat.le_refl _ | omega | (simp; done) | (simp; omega)) _)))
 have hWz : W.heap.size = w.heap.size + 1 := by rw [← hW]; simp
 have HMB : Hid (MBox m vals w.heap.size W) := by rw [← hW]; exact MBox.new m vals w
 rw [hW];go_loopw [5, 6] (fun pv av wr => ∃ (j : Nat) (ms : List NsM) (a : Nat), av = .int .i64 a ∧ j ≤ ps.length ∧ a ≤ e.length ∧ Hid (a = 1 + (ps.take j).flatten.length) ∧ Hid (allSome ((ps.take j).map (movGo m vals k)) = some (ms.map NsM.e)) ∧ ms.length ≤ 199 ∧ Hid (wr.ownsRow W.heap.size 22 1 pv ms.length (flatG NsM.cells ms)) ∧ Hid (∀ y ∈ ms, NsOff wr pv.ownBlock y) ∧ RowKit.Below W.heap.size W wr) (fun _ av _ => e.length - (intOf av).toNat)
 case atStart => exact ⟨0, [], 1, rfl, by omega, by omega, rfl, rfl, by simp, World.ownsRow_nil _ _ _ _, by simp [Hid], RowKit.Below.refl _ _⟩
 case round =>
  obtain ⟨j, ms, a, rfl, hj1, ha, HA, HM, hms, HO, HN, hbr⟩ := hrel;have hzr := hbr.size;have hwr : RowKit.Below w.heap.size w wr := hbW.trans (hbr.mono (by omega));have hml : Hid (ms.length = j) := by
   show _ = _;rcases allSome_cases (movGo m vals k) (ps.take j) with h | ⟨qs, h, h', _⟩
   · rw [HM.out] at h; cases h
   · rw [HM.out] at h;injection h with h
     rw [← h] at h';rw [List.length_map, List.length_take] at h';omega
  by_cases hlt : j < ps.length
  · obtain ⟨p, hp⟩ : ∃ p, ps[j]? = some p := ⟨_, List.getElem?_eq_getElem hlt⟩;have hpm := List.mem_of_getElem? hp;have hpn := List.length_pos_iff.2 (HNE.out p hpm);obtain ⟨z, hz⟩ : ∃ z, a + p.length = z := ⟨_, rfl⟩;have hpz : Hid (piece e a z = p) := (by show _ = _; rw [← hz, HA.out, HP.out.he]; exact cut_piece hp);have hsk : skP (e.drop a) 1 a = some z := (by rw [← hz, HA.out, HP.out.he]; exact cut_skip hp (HP.out.ex p hpm));have hze : z ≤ e.length := by
     have h1 := flat_step hp;have h2 := flat_take_le ps (j + 1);have := HA.out;have := HL1.out;omega
    have hae : a < e.length := (by omega);have HSK := Lib.hid (tree_Skip e (some ⟨b, of, none⟩) c a z wr hel ((HS.out.below hwr).more hwr.size) HP.out.par hsk ha);have HZ := Lib.hid hz;have HPP := Lib.hid hp;have haz : a < z := (by omega);have HC := Lib.hid (show ∀ W', RowKit.Below w.heap.size w W' → Calls Tryz.prog 101 #[.agg #[.int .i64 m.what, .string m.fr, .string m.to_, .bool vals], .slice (some ⟨b, of + a * 4, none⟩) (z - a) (c - a)] W' (MvPost W' (movGo m vals k p)) from fun W' hW' => by
     have h := HP.out.ih p hpm W' (some ⟨b, of + a * 4, none⟩) (c - a) (by omega) (by omega) (by have := ((HS.out.below hW').more hW'.size).piece a z; rw [hpz.out] at this; exact this);have hl : p.length = z - a := (by omega);rw [hl] at h; exact h)
    clear hsk hz hp;have q : ∀ (W : World), (Instr.slice 22 (.slice (some ⟨b, of, none⟩) e.length c) (some (.int .i64 (a : Int))) (some (.int .i64 (z : Int))) none).run Tryz.prog W = .ok (.slice (some ⟨b, of + a * 4, none⟩) (z - a) (c - a)) W := by
     intro W;go_simp
     rw [if_pos (show z ≤ c by omega), if_pos (show a ≤ z by omega), if_neg (show ¬ c = a by omega)]
    go_wp2_with fail
    refine HSK.out.mono ?_;rintro r w1 ⟨rfl, hb1⟩;obtain ⟨hcc1, hff1⟩ := bcell hb1;have hw1 : RowKit.Below W.heap.size W w1 := hbr.trans (hb1.mono hzr);go_wp2_with fail
    have HM1 := Lib.hid (HMB.out.later hw1 (by omega));clear hcc1 hff1;refine wp_region_hd (S := MBox m vals w.heap.size) [false, false, false, false, false, false, true, true, true, false] (by kernel_rfl) (by kernel_rfl) (fun _ _ _ _ _ h => h) ⟨HM1.out.c0, HM1.out.c1, HM1.out.c2, HM1.out.c3⟩ (fun hW' => ?_);simp only [List.zip_cons_cons, List.zip_nil_left];(repeat (first | (refine hd_take (v := ?_) (by rfl) ?_ ?_; rotate_left; (focus (intro W hW; obtain ⟨s0, s1, s2, s3⟩ := hW; go_simp; try with_reducible rfl)); simp only [Act.put, List.setIfInBounds_toArray, List.set_cons_zero, List.set_cons_succ]) | (refine hd_skip (by rfl) ?_; simp only [Act.put, List.setIfInBounds_toArray, List.set_cons_zero, List.set_cons_succ])))
    refine hd_call (fun K hK => ?_);go_simp
    refine (HC.out w1.drew (hwr.trans (hb1.mono hwr.size)).drew).mono ?_;rintro r w2 hpost;cases hq : movGo m vals k p with
    | none =>
     obtain ⟨rfl, hb2⟩ := hpost.2 hq;clear hpost;have HQ := Lib.hid hq;clear hq;have HO : Hid (o = none) := (by show _ = _; rw [HV.out, allSome_none _ ps p (List.mem_of_getElem? HPP.out) HQ.out]);dsimp only;clear hK K;go_wp2_with fail
     rw [HO.out];exact ⟨rfl, MvPost.twice ((hwr.trans (hb1.mono hwr.size)).trans ((below_of_drew hb2).mono (by have := hb1.size; have := hwr.size; omega)))⟩
    | some q1 =>
     obtain ⟨A2, c2, rfl, hc2, hcm2, hs2, hb2', hn2⟩ := hpost.1 q1 hq;clear hpost;have HQ := Lib.hid hq;clear hq;have hb2 := below_of_drew hb2';have hv1 := hb1.size;have hv2 := hb2.size;have hw2 : RowKit.Below W.heap.size W w2 := hw1.trans (hb2.mono hw1.size);refine hK _ _ (HMB.out.later hw2 (by omega)) ?_;clear hK K;have hw3 : RowKit.Below W.heap.size W (w2.alloc (.cells #[.slice A2 q1.length c2] 22)) := hw2.alloc (by omega) _;refine hd_call (fun K hK => ?_);go_simp
     refine hK _ _ (HMB.out.later hw3 (by omega)) ?_;clear hK K;have HO2 := Lib.hid (own_keep (own_keep (own_keep HO.out hb1) hb2) (by (repeat (first | assumption | exact Below.refl _ _ | apply Below.drew | apply below_drewN | (refine Below.alloc ?_ (by first | exact Nat.le_refl _ | omega | (simp; done) | (simp; omega)) _))) : RowKit.Below w2.heap.size w2 (w2.alloc (.cells #[.slice A2 q1.length c2] 22))));refine hd_append_own_at (by rfl) (.tmp 19) (.tmp 26) 152 rfl W.heap.size 22 i0 _ 1 24 Tryz.underlying152 hi hz0 hz1 hz2 rfl (by omega) u5 ms.length (flatG NsM.cells ms) rfl HO2.out ⟨w2.heap.size, 0, none⟩ 1 1 [.slice A2 q1.length c2] rfl rfl (cell_one_new _ _ _) (by simp [Value.oneCell']) (by unfold maxLen; omega) (by omega) (by simp; omega) ?_;intro v6 w6 hown6 hgrow6 _ hloc6;have hb6 : RowKit.Below W.heap.size W w6 := hw3.grown hgrow6 (by simp; omega) (fun q hq => (own_lt HO.out hq).1);refine ⟨HMB.out.later hb6 (by omega), ?_⟩;(repeat (first | (refine hd_take (v := ?_) (by rfl) ?_ ?_; rotate_left; (focus (intro W hW; obtain ⟨s0, s1, s2, s3⟩ := hW; go_simp; try with_reducible rfl)); simp only [Act.put, List.setIfInBounds_toArray, List.set_cons_zero, List.set_cons_succ]) | (refine hd_skip (by rfl) ?_; simp only [Act.put, List.setIfInBounds_toArray, List.set_cons_zero, List.set_cons_succ])))
     refine hd_nil ?_;have hq1 := HP.out.out p (List.mem_of_getElem? HPP.out) q1 HQ.out;have HN2 : Hid (NsOff w2 u5.ownBlock ⟨A2, c2, q1⟩) := NsGood.fresh (B := w1.heap.size) ⟨hs2, hc2, hcm2⟩ hn2 (fun b hb => Nat.lt_of_lt_of_le (own_lt HO.out hb).2 hv1);have HN6 := Lib.hid (collect (x := ⟨A2, c2, q1⟩) (wr := w2) (by (repeat (first | assumption | exact Below.refl _ _ | apply Below.drew | apply below_drewN | (refine Below.alloc ?_ (by first | exact Nat.le_refl _ | omega | (simp; done) | (simp; omega)) _)))) (fun y hy => ((HN.out y hy).later hb1).later hb2) (HN2.out.later (by (repeat (first | assumption | exact Below.refl _ _ | apply Below.drew | apply below_drewN | (refine Below.alloc ?_ (by first | exact Nat.le_refl _ | omega | (simp; done) | (simp; omega)) _))))) hgrow6 hloc6);have HM6 : Hid (allSome ((ps.take (j + 1)).map (movGo m vals k)) = some ((ms ++ [(⟨A2, c2, q1⟩ : NsM)]).map NsM.e)) := by
      show _ = _;rw [allSome_snoc _ ps _ j p q1 HM.out HPP.out HQ.out, List.map_append]; rfl
     have HA6 : Hid (z = 1 + (ps.take (j + 1)).flatten.length) := (by show _ = _; rw [flat_step HPP.out, ← HZ.out, HA.out]; omega);have hm6 : (ms ++ [(⟨A2, c2, q1⟩ : NsM)]).length ≤ 199 := (by rw [List.length_append, List.length_singleton]; have := hml.out; omega);go_wp2_with fail
     exact ⟨⟨j + 1, ms ++ [⟨A2, c2, q1⟩], z, by go_num, by omega, hze, HA6, HM6, hm6, by rw [List.length_append, ns_snoc]; exact hown6, HN6, hb6⟩, by simp [intOf]; omega⟩
  · have hjp : j = ps.length := (by omega);have HM2 : Hid (allSome (ps.map (movGo m vals k)) = some (ms.map NsM.e)) := by
     have := HM.out;rw [hjp, List.take_of_length_le (Nat.le_refl _)] at this;exact this
    have hae : ¬ a < e.length := by
     have h1 := HA.out;have h2 := HL1.out;rw [hjp, List.take_of_length_le (Nat.le_refl _)] at h1;omega
    have HOV : Hid (o = some (setOfP (ms.map NsM.e)).1) := by
     show _ = _;rw [HV.out, HM2.out]
    have HPE : Hid (∀ y ∈ ms, Vx y.e) := by
     intro y hy;rcases allSome_cases (movGo m vals k) ps with h | ⟨qs, h, _, h'⟩
     · rw [HM2.out] at h; cases h
     · rw [HM2.out] at h;injection h with h
       obtain ⟨p, hp, hpq⟩ := h' y.e (by rw [← h]; exact List.mem_map_of_mem hy);exact HVX.out p hp _ hpq
    have hcl : (catN ms).length ≤ 199 := by
     have h1 := allSome_len _ _ _ HM2.out (fun p hp q hq => (HP.out.out p hp q hq).2);rw [← nss_map' rfl] at h1;have := HL1.out;omega
    have HSV : Hid (setV (ms.map NsM.e) = ((setOfP (ms.map NsM.e)).1, 0)) := by
     show _ = _;have hq : ∀ q ∈ ms.map NsM.e, Vx q := fun q hq => by obtain ⟨y, hy, rfl⟩ := List.mem_map.1 hq; exact HPE.out y hy
     have hl2 : (ms.map NsM.e).flatten.length + 1 ≤ 200 := (by rw [← nss_map' rfl]; omega);obtain ⟨h1, h2, h3⟩ := setOf_ok hq hl2;rw [h1];unfold setV;rw [if_neg (by omega)]
    obtain ⟨-, Ap, cp, hv, hcp, hcm', hsp⟩ := own_formG ns_ok HO.out;subst hv;have HNS : Hid (NssAt wr Ap ms) := ⟨hsp, fun y hy => (HN.out y hy).good⟩;have HNV : Hid (∀ y ∈ ms, valErr y.e = 0) := fun y hy => (val_iff y.e).2 ⟨by
     have h1 : y.e.length ≤ (ms.map NsM.e).flatten.length := mem_len (List.mem_map_of_mem hy);rw [← nss_map' rfl] at h1;omega, HPE.out y hy⟩
    have HNK : Hid (∀ y ∈ ms, NdOk y.e) := fun y hy => ex_nok (vx_ex (HPE.out y hy));have f0 := (hwr.cell (p := ⟨b, of, none⟩) hb).trans d0;have hbr' : b < wr.heap.size := (by have := hwr.size; omega);have HMr := Lib.hid (HMB.out.later hbr (by omega));have f3 := HMr.out.c3;rw [HVS.out] at f3;clear d0 d1 d2 d3 hsp HO HN HM HV hml HA;have hlw : w.heap.size < wr.heap.size := (by omega);go_wp2_with fail
    refine (val_SetOf ms Ap cp wr HNS.out HNV.out HNK.out (by omega)).mono ?_;rintro r w2 ⟨A2, c2, rfl, h21, h22, h23, h24, h25⟩;have H23 := Lib.hid h23;have H21 := Lib.hid h21;have H25 := Lib.hid h25;clear h23 h21 h25;go_wp2_with fail
    go_ret
    rw [HOV.out];have h1 := H21.out;have h3 := H23.out;rw [HSV.out] at h1 h3 ⊢;exact MvPost.done ⟨A2, c2, rfl, h1, h22, h3, hwr.trans (h24.mono hwr.size), fun b o h => by have := H25.out b o h; omega⟩
end Go.Proofs.YtpheiojmcafolaaGreatDoor
namespace Go.Proofs.YtpheiojmcafolaaGreatDoor
open Go.RowKit
def valueM (m : Mv) (e : List Nd) : List Nd × Int :=
 if mvErr m ≠ 0 then ([], mvErr m) else if valErr e ≠ 0 then ([], valErr e) else ((movV m e).getD [], if (movV m e).isSome = true then 0 else 6)
set_option maxRecDepth 100000 in
set_option maxHeartbeats 1600000 in
theorem move_Value (m : Mv) (e : List Nd) (A : Option Addr) (c : Nat) (w : World) (hz : MvZ m) (hc : e.length ≤ c) (hcm : c ≤ 9223372036854775807) (hok : NdOk e) (hsl : NdSl w w.heap.size A e) :
 Calls Tryz.prog 32 #[.agg #[.int .i64 m.what, .string m.fr, .string m.to_], .slice A e.length c] w fun r w' => NdsB2 w r w' (valueM m e).1 (valueM m e).2 := by
 have HC := Lib.hid (fun W => move_Check m W hz);have HT := Lib.hid (fun W (hW : Below w.heap.size w W) => val_Check e A c W hc hcm hok ((hsl.below hW).more hW.size));by_cases hm : mvErr m = 0
 · have tm : (mvErr m != 0) = false := by simp [hm]
   by_cases he : valErr e = 0
   · have te : (valErr e != 0) = false := (by simp [he]);have HV : Hid (valueM m e = ((movV m e).getD [], if (movV m e).isSome = true then 0 else 6)) := (by show _ = _; unfold valueM; rw [if_neg (by simp [hm]), if_neg (by simp [he])]);have hex := (val_iff e).1 he;have HA := Lib.hid (fun W (hW : Below w.heap.size w W) => mover_all m true e (mpart_all hm (fun _ k e x ps hP hk h5 hv => mpart_set m hm true rfl k e x ps hP hk h5 hv) e.length e (.inr ⟨rfl, .inl hex.2⟩) hex.1 (Nat.le_refl _)) A c W hc hcm ((hsl.below hW).more hW.size));clear hm he hex hsl hok;go_enter Tryz.func32, Tryz.ntmps32
     go_wp2_with fail
     refine (HC.out _).mono ?_;rintro r w1 ⟨rfl, hb1⟩;have hw1 : Below w.heap.size w w1 := Below.trans (by (repeat (first | assumption | exact Below.refl _ _ | apply Below.drew | apply below_drewN | (refine Below.alloc ?_ (by first | exact Nat.le_refl _ | omega | (simp; done) | (simp; omega)) _)))) (hb1.mono (by simp));obtain ⟨hcc, -⟩ := bcell hb1;have hs1 : w.heap.size < w1.heap.size := (by have := hb1.size; simp at this; omega);clear hb1;go_wp2_with fail
     refine (HT.out _ hw1).mono ?_;rintro r w2 ⟨rfl, hb2⟩;have hw2 := hw1.trans (hb2.mono hw1.size);obtain ⟨hcc2, -⟩ := bcell hb2;clear hb2;go_wp2_with fail
     refine (HA.out _ hw2).mono ?_;rintro r w3 ⟨A3, c3, rfl, h31, h32, h33, hb3, h34⟩;have H34 := Lib.hid h34;have H33 := Lib.hid h33;have H31 := Lib.hid h31;have HVV : Hid ((valueM m e).1 = (movGo m true e.length e).getD [] ∧ (valueM m e).2 = if (movGo m true e.length e).isSome = true then 0 else 6) := (by rw [HV.out]; exact ⟨rfl, rfl⟩);clear h33 h31 h34 HA HV hcc hcc2;generalize (movGo m true e.length e).getD [] = ys at *;generalize (if (movGo m true e.length e).isSome = true then (0 : Int) else 6) = kk at *;go_wp2_with fail
     go_ret2
     rw [HVV.out.1, HVV.out.2];exact ⟨A3, c3, rfl, H31.out, h32, H33.out, hw2.trans (hb3.mono hw2.size), fun b o e => by have := H34.out b o e; have := hw2.size; omega⟩
   · have te : (valErr e != 0) = true := (by simp [he]);have HV : Hid (valueM m e = ([], valErr e)) := (by show _ = _; unfold valueM; rw [if_neg (by simp [hm]), if_pos he]);clear hm he hsl hok;generalize valErr e = k at HT te HV;go_enter Tryz.func32, Tryz.ntmps32
     go_wp2_with fail
     refine (HC.out _).mono ?_;rintro r w1 ⟨rfl, hb1⟩;have hw1 : Below w.heap.size w w1 := Below.trans (by (repeat (first | assumption | exact Below.refl _ _ | apply Below.drew | apply below_drewN | (refine Below.alloc ?_ (by first | exact Nat.le_refl _ | omega | (simp; done) | (simp; omega)) _)))) (hb1.mono (by simp));clear hb1;go_wp2_with fail
     refine (HT.out _ hw1).mono ?_;rintro r w2 ⟨rfl, hb2⟩;have hw2 := hw1.trans (hb2.mono hw1.size);clear hb2;go_wp2_with fail
     go_ret2
     rw [HV.out];exact NdsB2.none hw2
 · have tm : (mvErr m != 0) = true := by simp [hm]
   have HV : Hid (valueM m e = ([], mvErr m)) := by show _ = _; unfold valueM; rw [if_pos hm]
   clear hm hsl hok;generalize mvErr m = k at HC tm HV;go_enter Tryz.func32, Tryz.ntmps32
   go_wp2_with fail
   refine (HC.out _).mono ?_;rintro r w1 ⟨rfl, hb1⟩;have hw1 : Below w.heap.size w w1 := Below.trans (by (repeat (first | assumption | exact Below.refl _ _ | apply Below.drew | apply below_drewN | (refine Below.alloc ?_ (by first | exact Nat.le_refl _ | omega | (simp; done) | (simp; omega)) _)))) (hb1.mono (by simp));clear hb1;go_wp2_with fail
   go_ret2
   rw [HV.out];exact NdsB2.none hw1
end Go.Proofs.YtpheiojmcafolaaGreatDoor
namespace Go.Proofs.YtpheiojmcafolaaGreatDoor
set_option maxRecDepth 100000
open Go.RowKit Go.Sort
set_option maxHeartbeats 3200000 in
theorem move_uid (m : Mv) (u : Ud) (w : World) :
 Calls Tryz.prog 69 #[.agg #[.int .i64 m.what, .string m.fr, .string m.to_], .agg #[.string u.ty, .string u.id]] w fun e w' => e = .returned (.agg #[.string (mvU m u).ty, .string (mvU m u).id]) ∧ RowKit.Below w.heap.size w w' := by
 obtain ⟨y, hy⟩ : ∃ y, mvU m u = y := ⟨_, rfl⟩;rw [hy];have HY := Lib.hid hy;clear hy;by_cases h2 : m.what = 2
 · have e2 : (m.what == 2) = true := by simp [h2]
   by_cases hs : u.ty.toList = m.fr.toList
   · have es : (u.ty.toList == m.fr.toList) = true := (by simp [hs]);have HV : Hid (y = ⟨m.to_, u.id⟩) := (by show _ = _; rw [← HY.out]; unfold mvU rnS; rw [if_pos ⟨h2, hs⟩]);clear hs h2;go_enter Tryz.func69, Tryz.ntmps69
     go_wp2_with fail
     refine bodyPost_ret (v := .agg #[.string y.ty, .string y.id]) (by rw [HV.out]; simp [results, Tryz.results69, go_sem]) rfl ⟨rfl, ?_⟩;repeat (first | exact RowKit.Below.refl _ _ | (refine RowKit.Below.setCell ?_ (by first | (simp; done) | (simp; omega)) _) | (refine RowKit.Below.alloc ?_ (by first | exact Nat.le_refl _ | (simp; done) | (simp; omega)) _))
   · have es : (u.ty.toList == m.fr.toList) = false := (by simp [hs]);have HV : Hid (y = u) := (by show _ = _; rw [← HY.out]; unfold mvU rnS; rw [if_neg (fun h => hs h.2)]);clear hs h2;go_enter Tryz.func69, Tryz.ntmps69
     go_wp2_with fail
     refine bodyPost_ret (v := .agg #[.string y.ty, .string y.id]) (by rw [HV.out]; simp [results, Tryz.results69, go_sem]) rfl ⟨rfl, ?_⟩;repeat (first | exact RowKit.Below.refl _ _ | (refine RowKit.Below.setCell ?_ (by first | (simp; done) | (simp; omega)) _) | (refine RowKit.Below.alloc ?_ (by first | exact Nat.le_refl _ | (simp; done) | (simp; omega)) _))
 · have e2 : (m.what == 2) = false := by simpa using h2
   have HV : Hid (y = u) := by show _ = _; rw [← HY.out]; unfold mvU rnS; rw [if_neg (fun h => h2 h.1)]
   clear h2;go_enter Tryz.func69, Tryz.ntmps69
   go_wp2_with fail
   refine bodyPost_ret (v := .agg #[.string y.ty, .string y.id]) (by rw [HV.out]; simp [results, Tryz.results69, go_sem]) rfl ⟨rfl, ?_⟩;repeat (first | exact RowKit.Below.refl _ _ | (refine RowKit.Below.setCell ?_ (by first | (simp; done) | (simp; omega)) _) | (refine RowKit.Below.alloc ?_ (by first | exact Nat.le_refl _ | (simp; done) | (simp; omega)) _))
end Go.Proofs.YtpheiojmcafolaaGreatDoor
namespace Go.Proofs.YtpheiojmcafolaaGreatDoor
open Go.RowKit
theorem few_parts {e : List Nd} (h0 : treeErr e = 0) : ∀ y ∈ e, 0 ≤ ndParts y ∧ ndParts y ≤ 200 := fun y hy => by
 obtain ⟨j, hj⟩ := List.getElem?_of_mem hy;obtain ⟨s, hs, hsl⟩ := tree_at h0 hj;obtain ⟨_, _, q1, q2⟩ := bGo_parts hs hj;have := (tree_len h0).1;omega
theorem shaped_n {x : Nd} (hs : shapedT x = true) (hp : 0 ≤ ndParts x ∧ ndParts x ≤ 200) (h2 : ¬ x.op = 2) : I64 x.n := by
 have hb : ∀ {a b : Bool}, (a && b) = true → a = true ∧ b = true := fun h => by simpa using h
 unfold I64;unfold shapedT at hs;split at hs
 · rename_i h1;rw [one_valM h1] at hs;unfold shapedV at hs;rcases h1 with h | h | h | h
   · rw [if_pos h] at hs;have := (hb (hb hs).1).1;simp at this; omega
   · exact absurd h h2
   · rw [if_neg (by omega), if_neg (by omega), if_pos h] at hs;have := (hb (hb hs).1).1;simp at this; omega
   · rw [if_neg (by omega), if_neg (by omega), if_neg (by omega), if_pos h] at hs;have := (hb (hb hs).1).1;simp at this; omega
 · split at hs
   · rename_i h1 h5;have : ndParts x = x.n := (by unfold ndParts; rw [if_neg (by omega), if_pos h5]);omega
   · split at hs
     · have := (hb (hb hs).1).1;simp at this; omega
     · split at hs
       · have := (hb (hb hs).1).1;simp at this; omega
       · split at hs
         · have := (hb (hb hs).1).1;simp at this; omega
         · have := (hb (hb (hb hs).1).1).2;simp at this; omega
theorem tree_i64 {e : List Nd} (h : treeErr e = 0) (h2 : ∀ x ∈ e, x.op = 2 → I64 x.n) : NdI e := fun x hx => by
 by_cases h2' : x.op = 2
 · exact h2 x hx h2'
 · exact shaped_n (ex_shaped ((tree_iff e).1 h).2 x hx) (few_parts h x hx) h2'
end Go.Proofs.YtpheiojmcafolaaGreatDoor
namespace Go.Proofs.YtpheiojmcafolaaGreatDoor
open Go.RowKit
section
variable {α : Type} (nm : α → List UInt8) (fb : α → Bool) (pe1 pe2 : α → Int) (vt : α → Int)
def forbids (ps : List α) : List (List UInt8) := (ps.filter fun p => vt p == 1 && fb p).map nm
def permits (ps : List α) : List (List UInt8) := (ps.filter fun p => vt p == 1 && !fb p).map nm
def wrongs (ps : List α) : List (List UInt8) := (ps.filter fun p => vt p == -1).map nm
def byP (ps : List α) : List (List UInt8) := if forbids nm fb vt ps = [] then permits nm fb vt ps else forbids nm fb vt ps
def allowP (ps : List α) : Bool := (forbids nm fb vt ps).isEmpty && !(permits nm fb vt ps).isEmpty
variable {nm fb pe1 pe2 vt}
theorem forbids_nil {ps : List α} : forbids nm fb vt ps = [] ↔ ∀ p ∈ ps, ¬ (vt p = 1 ∧ fb p = true) := by
 unfold forbids; simp [List.filter_eq_nil_iff]
theorem permits_nil {ps : List α} : permits nm fb vt ps = [] ↔ ∀ p ∈ ps, ¬ (vt p = 1 ∧ fb p = false) := by
 unfold permits; simp [List.filter_eq_nil_iff]
theorem mem_forbids {ps : List α} {s : List UInt8} : s ∈ forbids nm fb vt ps ↔ ∃ p ∈ ps, vt p = 1 ∧ fb p = true ∧ nm p = s := by
 unfold forbids; simp [and_assoc]
theorem mem_permits {ps : List α} {s : List UInt8} : s ∈ permits nm fb vt ps ↔ ∃ p ∈ ps, vt p = 1 ∧ fb p = false ∧ nm p = s := by
 unfold permits; simp [and_assoc]
theorem nm_inj : ∀ {ps : List α}, (ps.map nm).Nodup → ∀ {p q : α}, p ∈ ps → q ∈ ps → nm p = nm q → p = q
 | [], _, _, _, h, _, _ => by cases h
 | x :: r, hn, p, q, hp, hq, e => by
  rw [List.map_cons, List.nodup_cons] at hn;rcases List.mem_cons.1 hp with rfl | hp'
  · rcases List.mem_cons.1 hq with rfl | hq'
    · rfl
    · exact absurd (e ▸ List.mem_map_of_mem hq') hn.1
  · rcases List.mem_cons.1 hq with rfl | hq'
    · exact absurd (e ▸ List.mem_map_of_mem hp') hn.1
    · exact nm_inj hn.2 hp' hq' e
theorem apart {ps : List α} (hn : (ps.map nm).Nodup) : byP nm fb vt (ps.filter fun p => (byP nm fb vt ps).contains (nm p)) = byP nm fb vt ps ∧
 allowP nm fb vt (ps.filter fun p => (byP nm fb vt ps).contains (nm p)) = allowP nm fb vt ps ∧ wrongs nm vt (ps.filter fun p => (byP nm fb vt ps).contains (nm p)) = [] := by
 by_cases h0 : forbids nm fb vt ps = []
 · have hb : byP nm fb vt ps = permits nm fb vt ps := by unfold byP; rw [if_pos h0]
   have hk : (ps.filter fun p => (byP nm fb vt ps).contains (nm p)) = ps.filter fun p => vt p == 1 && !fb p := by
    refine List.filter_congr fun p hp => ?_;rw [hb, Bool.eq_iff_iff, List.contains_iff_mem, mem_permits];simp only [Bool.and_eq_true, beq_iff_eq, Bool.not_eq_true'];constructor
    · rintro ⟨q, hq, hv, hf, e⟩; rw [← nm_inj hn hq hp e]; exact ⟨hv, hf⟩
    · rintro ⟨hv, hf⟩; exact ⟨p, hp, hv, hf, rfl⟩
   rw [hk];have hf : forbids nm fb vt (ps.filter fun p => vt p == 1 && !fb p) = [] := by
    rw [forbids_nil]; intro p hp; simp at hp; simp [hp.2.2]
   have hpm : permits nm fb vt (ps.filter fun p => vt p == 1 && !fb p) = permits nm fb vt ps := by
    unfold permits; rw [List.filter_filter]; congr 1; refine List.filter_congr fun p _ => ?_; simp
   refine ⟨by unfold byP; rw [if_pos hf, if_pos h0, hpm], by unfold allowP; rw [hf, h0, hpm], ?_⟩;unfold wrongs;rw [List.filter_filter, List.filter_eq_nil_iff.2 ?_]; · rfl
   intro p _; simp; intro h; simp [h]
 · have hb : byP nm fb vt ps = forbids nm fb vt ps := by unfold byP; rw [if_neg h0]
   have hk : (ps.filter fun p => (byP nm fb vt ps).contains (nm p)) = ps.filter fun p => vt p == 1 && fb p := by
    refine List.filter_congr fun p hp => ?_;rw [hb, Bool.eq_iff_iff, List.contains_iff_mem, mem_forbids];simp only [Bool.and_eq_true, beq_iff_eq];constructor
    · rintro ⟨q, hq, hv, hf, e⟩; rw [← nm_inj hn hq hp e]; exact ⟨hv, hf⟩
    · rintro ⟨hv, hf⟩; exact ⟨p, hp, hv, hf, rfl⟩
   rw [hk];have hf : forbids nm fb vt (ps.filter fun p => vt p == 1 && fb p) = forbids nm fb vt ps := by
    unfold forbids; rw [List.filter_filter]; congr 1; refine List.filter_congr fun p _ => ?_; simp
   have hpm : permits nm fb vt (ps.filter fun p => vt p == 1 && fb p) = [] := by
    rw [permits_nil]; intro p hp; simp at hp; simp [hp.2.2]
   refine ⟨by rw [hb]; unfold byP; rw [hf, if_neg h0], ?_, ?_⟩
   · have e : (forbids nm fb vt ps).isEmpty = false := (by cases h : forbids nm fb vt ps; exact absurd h h0; rfl);unfold allowP; rw [hf, hpm, e]; rfl
   · unfold wrongs;rw [List.filter_filter, List.filter_eq_nil_iff.2 ?_]; · rfl
     intro p _; simp; intro h; simp [h]
end
end Go.Proofs.YtpheiojmcafolaaGreatDoor
namespace Go.Proofs.YtpheiojmcafolaaGreatDoor
open Go.RowKit Go.Sort
open Go.RowKit Go.Sort
theorem own_later {B k n : Nat} {e : TypeId} {v : Value} {xs : List Value} {w w' : World} (h : w.ownsRow B e k v n xs) (hb : RowKit.Below w.heap.size w w') : w'.ownsRow B e k v n xs :=
 h.kept (row := none) ⟨hb.os, hb.tape, hb.output, hb.size, fun k hk _ => hb.block k hk⟩ (by cases hv : v.ownBlock with | none => exact .inl rfl | some g => exact .inr (by simp))
end Go.Proofs.YtpheiojmcafolaaGreatDoor
namespace Go.Proofs.YtpheiojmcafolaaGreatDoor
open Go.RowKit
structure Aq where
 es : List En
 hs : List Eh
 Ea : Option Addr
 ec : Nat
 q : Rq
 qa : Option Addr
 qc : Nat
end Go.Proofs.YtpheiojmcafolaaGreatDoor
