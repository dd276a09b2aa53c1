/-
  THE WALKS: (*parser).set: parts collected in a row.
  THE WALKS: (*parser).rec.
  THE WALKS: the parser as a whole; the deferred closure of phrase.Parse.
-/
import Derived.Test.YtbggbcnfkcadjaaGreatDoorPe08
import Derived.Deep.LoopGhost
import Derived.Test.YtbggbcnfkcadjaaGreatDoorPe07
import Derived.Test.YtbggbcnfkcadjaaGreatDoorPe09
import Derived.Recover
namespace Go.Proofs.YtbggbcnfkcadjaaGreatDoor
set_option maxRecDepth 100000
open Go.RowKit Go.Sort
theorem own_sl {w : World} {base k : Nat} {e : TypeId} {v : Value} {n : Nat} {xs : List Value} (h : w.ownsRow base e k v n xs) : ∃ A c, v = .slice A n c ∧ n ≤ c := by
 rcases h.2 with ⟨hv, h0⟩ | ⟨g, cap, cur, hv, _, _, h1, _⟩
 · exact ⟨none, 0, by rw [hv, h0], by omega⟩
 · exact ⟨some ⟨g, 0, none⟩, cap, hv, h1⟩
structure NsFar (g : Nat → Prop) (w : World) (x : NsM) : Prop where
 off : NdOff g w w.heap.size x.A x.e
 le : x.e.length ≤ x.c
 max : x.c ≤ 9223372036854775807
theorem NsFar.turn {g g' : Nat → Prop} {w w' : World} {x : NsM} (h : NsFar g w x) (hs : w.heap.size ≤ w'.heap.size) (hk : ∀ k, k < w.heap.size → ¬ g k → w'.heap[k]? = w.heap[k]?) (hg : ∀ b, b < w.heap.size → g' b → g b) : NsFar g' w' x :=
 ⟨fun hne => by
   obtain ⟨b, o, e, h1, h2, h3⟩ := h.off hne
   have hc : ∀ i, w'.cell? ⟨b, i, none⟩ = w.cell? ⟨b, i, none⟩ := fun i => World.cell?_of_block (a := ⟨b, i, none⟩) (hk b h1 h2)
   exact ⟨b, o, e, Nat.lt_of_lt_of_le h1 hs, fun hh => h2 (hg b h1 hh), fun i y hy => by
     obtain ⟨q0, q1, q2, q3⟩ := h3 i y hy
     exact ⟨(hc _).trans q0, (hc _).trans q1, (hc _).trans q2, (hc _).trans q3⟩⟩, h.le, h.max⟩
theorem NsFar.good {g : Nat → Prop} {w : World} {x : NsM} (h : NsFar g w x) : NsGood w w.heap.size x := ⟨h.off.sl, h.le, h.max⟩
theorem grown_of_only {w w' : World} {rb : Nat} (h : Only w.heap.size rb w w') : w.grownBy w' (some rb) := ⟨h.os, h.tape, h.output, h.size, fun k hk hne => h.block k hk (fun e => hne (by rw [e]))⟩
def FarG (w : World) (v : Value) (b : Nat) : Prop := v.ownBlock = some b ∨ b < w.heap.size
structure PkR (x : Px) (w W : World) (v : Value) (ms : List NsM) : Prop where
 row : W.ownsRow w.heap.size 22 1 v ms.length (flatG NsM.cells ms)
 far : ∀ y ∈ ms, NsFar (FarG w v) W y ∧ y.e ≠ []
theorem PkR.only {x : Px} {w W W' : World} {v : Value} {ms : List NsM} (h : PkR x w W v ms) (ho : Only W.heap.size x.pb W W') (hlt : x.pb < w.heap.size) : PkR x w W' v ms :=
 ⟨h.row.kept (grown_of_only ho) (.inr (fun e => by have := (own_lt h.row e).1; omega)), fun y hy => ⟨(h.far y hy).1.turn ho.size (fun k hk hg => ho.block k hk (fun e => hg (.inr (by omega)))) (fun _ _ h => h), (h.far y hy).2⟩⟩
theorem PkR.start (x : Px) (w : World) : PkR x w w (.slice none 0 0) [] := ⟨World.ownsRow_nil _ _ _ _, fun y hy => by cases hy⟩
theorem PkR.more {x : Px} {w W W' : World} {v v' : Value} {ms : List NsM} {y : NsM} {O : Obj} (h : PkR x w W v ms) (hy : NsFar (FarG w v) W y) (hne : y.e ≠ [])
   (hown : W'.ownsRow w.heap.size 22 1 v' (ms.length + 1) (flatG NsM.cells ms ++ [.slice y.A y.e.length y.c])) (hg : (W.alloc O).grownBy W' v.ownBlock) (hloc : v'.ownBlock = v.ownBlock ∨ v'.ownBlock = some (W.alloc O).heap.size) : PkR x w W' v' (ms ++ [y]) := by
 have hz := hg.size
 rw [World.size_alloc] at hz hloc
 have hk : ∀ k, k < W.heap.size → ¬ FarG w v k → W'.heap[k]? = W.heap[k]? := fun k hk hn => (hg.block k (by rw [World.size_alloc]; omega) (fun e => hn (.inl e.symm))).trans (RowKit.Below.heap_alloc _ _ _ hk)
 have hf : ∀ b, b < W.heap.size → FarG w v' b → FarG w v b := fun b hb hh => by
   rcases hh with hh | hh
   · rcases hloc with h2 | h2
     · exact .inl (h2 ▸ hh)
     · rw [h2] at hh; injection hh with hh; omega
   · exact .inr hh
 refine ⟨by rw [List.length_append, ns_snoc]; exact hown, fun z hz' => ?_⟩
 rcases List.mem_append.1 hz' with hz' | hz'
 · exact ⟨(h.far z hz').1.turn (by omega) hk hf, (h.far z hz').2⟩
 · rw [List.mem_singleton] at hz'; subst hz'
   exact ⟨hy.turn (by omega) hk hf, hne⟩
theorem St.grown {x : Px} {w W W' : World} {i : Nat} (h : St x w W i) (hb : RowKit.Below w.heap.size W W') : St x w W' i :=
 ⟨h.inn.keep (Only.of_below hb (Nat.le_refl _)) (Nat.le_of_lt h.lt), Blk.below h.blk hb h.lt, h.le, h.only.trans (Only.of_below hb (Nat.le_refl _)), h.lt⟩
theorem Exm.farG {w W W' : World} {v : Value} {m : NsM} (h : Exm W.heap.size W' m) (hz : w.heap.size ≤ W.heap.size) (hv : ∀ b, v.ownBlock = some b → b < W.heap.size) : NsFar (FarG w v) W' m :=
 ⟨fun hne => by
   obtain ⟨b, o, e, hb, hc⟩ := h.good.sl hne
   have := h.far b o e
   exact ⟨b, o, e, hb, fun hh => by
     rcases hh with hh | hh
     · have := hv b hh; omega
     · omega, hc⟩, h.good.le, h.good.max⟩
theorem St.callF {x : Px} {w W : World} {i : Nat} (h : St x w W i) {fn : Nat} {f : Nat} {a : PT} {Q : Pr} {g : List Nd → List Tk → Pr} (hd : Does x fn (pa f a)) (hn : ∀ r, Q ≠ .bad 0 r) (ha : a.gd 300) (hQ : (pa f a (x.ts.drop i)).bind g = Q) :
   Calls Tryz.prog fn #[.pointer (some ⟨x.pb, 0, none⟩)] W (PanOr x w Q fun r W' => ∃ A c e j, r = .returned (.slice A e.length c) ∧ Exm W.heap.size W' ⟨A, c, e⟩ ∧ St x w W' j ∧ Only W.heap.size x.pb W W' ∧ g e (x.ts.drop j) = Q ∧ e.length ≤ 300 + a.acc ∧ i + a.starts ≤ j) := by
 refine (hd W i h.inn h.blk h.le (nb_of hQ hn)).mono ?_
 rintro r W' ⟨ho, hm⟩
 cases hq : pa f a (x.ts.drop i) with
 | ok e rest =>
   rw [hq] at hm hQ
   obtain ⟨A, c, j, h1, h2, h3, h4, h5⟩ := hm
   subst h3
   exact .inr ⟨A, c, e, j, h1, h2, h.turn ho h5 h4, ho, hQ, pa_len h ha hq, pa_far h ha h4 hq⟩
 | bad k rest =>
   rw [hq] at hm hQ
   obtain ⟨j, h1, h2, h3⟩ := hm
   refine .inl ⟨k, j, h1, ?_⟩
   rw [← hQ]
   exact ⟨h.only.trans (ho.mono h.only.size), j, rfl, h2, h3⟩
theorem St.nodeF {x : Px} {w W : World} {i : Nat} (h : St x w W i) (n : Nd) (T : TypeId) (ms : List NsM) (cs : Array Value) (hcs : cs.toList = flatG NsM.cells ms) {B : Nat} (hm : ∀ y ∈ ms, Exm B W y) (hl : (catN ms).length ≤ 100000) (hp : ms.length ≤ 100000) {E : List Nd} (hE : n :: catN ms = E) :
   Calls Tryz.prog 100 #[.agg #[.int .i64 n.op, .int .i64 n.n, .string n.s, .string n.t], .slice (some ⟨W.heap.size, 0, none⟩) ms.length ms.length] (W.alloc (.cells cs T)) fun r W' => ∃ A c, r = .returned (.slice A E.length c) ∧ Exm W.heap.size W' ⟨A, c, E⟩ ∧ St x w W' i ∧ Only W.heap.size x.pb W W' := by
 have hb0 : RowKit.Below W.heap.size W (W.alloc (.cells cs T)) := by (repeat (first | assumption | exact Below.refl _ _ | apply Below.drew | apply below_drewN | (refine Below.alloc ?_ (by first | exact Nat.le_refl _ | omega | (simp; done) | (simp; omega)) _)))
 refine (ph_node n ms _ _ _ (nss_new W T ms cs hcs hm) (fun p hp => (hm p hp).ne) hl hp).mono ?_
 rintro r W' ⟨A, c, h1, h2, h3, h4, h5, h6⟩
 rw [hE] at h1 h2 h4
 have hb : RowKit.Below W.heap.size W W' := hb0.trans (h5.mono (by simp))
 exact ⟨A, c, h1, ⟨⟨h4, h2, h3⟩, fun b o e => by have := h6 b o e; simp at *; omega, by rw [← hE]; simp⟩, h.below hb, Only.of_below hb (Nat.le_refl _)⟩
theorem PkR.node {x : Px} {w W : World} {A : Option Addr} {c : Nat} {ms : List NsM} {j : Nat} (h : PkR x w W (.slice A ms.length c) ms) (S : St x w W j) (n : Nd) (hl : (catN ms).length ≤ 100000) (hp : ms.length ≤ 100000) {E : List Nd} (hE : n :: catN ms = E) {Q : Pr} (hQ : .ok E (x.ts.drop j) = Q) :
   Calls Tryz.prog 100 #[.agg #[.int .i64 n.op, .int .i64 n.n, .string n.s, .string n.t], .slice A ms.length c] W fun r W' => ∃ A c n, r = .returned (.slice A n c) ∧ PaPost x w Q (.returned (.slice A n c)) W' := by
 obtain ⟨-, A', c', hv, -, -, hs⟩ := own_formG ns_ok h.row
 injection hv with h1 h2 h3
 subst h1 h3
 refine (ph_node n ms A c W ⟨hs, fun y hy => (h.far y hy).1.good⟩ (fun y hy => (h.far y hy).2) hl hp).mono ?_
 rintro r W' hn
 rw [hE] at hn
 have hy := S.yes hn (by rw [← hE]; simp)
 obtain ⟨A1, c1, hr, -⟩ := hn
 subst hr
 exact ⟨A1, c1, _, rfl, by rw [← hQ]; exact hy⟩
theorem catN_map (ms : List NsM) : (ms.map NsM.e).flatten = catN ms := by unfold catN; rw [List.flatMap_def]
theorem catN_snoc (ms : List NsM) (y : NsM) : catN (ms ++ [y]) = catN ms ++ y.e := by unfold catN; rw [List.flatMap_append]; simp
theorem l_sc : (⟨#[93]⟩ : ByteArray).toList = [93] := bsOf_list [93]
theorem l_comma : (⟨#[44]⟩ : ByteArray).toList = [44] := bsOf_list [44]
theorem se_end {g : Nat} {ps : List (List Nd)} {ts : List Tk} {j : Nat} (h : hdS [93] (ts.drop j) = true) : pa (g + 1) (.se ps) (ts.drop j) = .ok (⟨5, ps.length, ⟨#[]⟩, ⟨#[]⟩⟩ :: ps.flatten) (ts.drop (j + 1)) := by
 show (if hdS [93] (ts.drop j) = true then _ else _) = _
 rw [if_pos h, tail_drop']
theorem se_one {g : Nat} {ps : List (List Nd)} {ts : List Tk} {j : Nat} (h : hdS [93] (ts.drop j) = false) (h0 : ps = []) : pa (g + 1) (.se ps) (ts.drop j) = (pa g .whole (ts.drop j)).bind fun e r => pa g (.se (ps ++ [e])) r := by
 show (if hdS [93] (ts.drop j) = true then _ else if ps = [] then _ else _) = _
 rw [if_neg (by rw [h]; simp), if_pos h0]
theorem se_more {g : Nat} {ps : List (List Nd)} {ts : List Tk} {j : Nat} (h : hdS [93] (ts.drop j) = false) (h0 : ps ≠ []) : pa (g + 1) (.se ps) (ts.drop j) = needR [44] (ts.drop j) fun r => (pa g .whole r).bind fun e r => pa g (.se (ps ++ [e])) r := by
 show (if hdS [93] (ts.drop j) = true then _ else if ps = [] then _ else _) = _
 rw [if_neg (by rw [h]; simp), if_neg h0]
set_option maxHeartbeats 25600000 in
theorem ph_set (x : Px) (f : Nat) (hw : ∀ g, g ≤ f → Does x 30 (pa g .whole)) : Does x 236 (pa f (.se [])) := by
 intro w i hx hB hi hnb
 obtain ⟨i0, hi0, hz0, hz1, hz2⟩ := info_parts ns_info
 have S0 := St.start hx hB hi
 have hlen := hx.len
 have HS0 := Lib.hid S0
 have HLT := Lib.hid hB.lt
 have HW := Lib.hid hw
 obtain ⟨Q, hQ⟩ : ∃ Q, pa f (.se []) (x.ts.drop i) = Q := ⟨_, rfl⟩
 rw [hQ] at hnb ⊢
 have HN := Lib.hid hnb
 have HQ0 := Lib.hid hQ
 clear hx hB hw hnb S0 hQ
 go_enter Tryz.func236, Tryz.ntmps236
 go_wp2_with fail
 go_loopg [3] f (fun gg pv wr => ∃ (ms : List NsM) (j : Nat), gg ≤ f ∧ ms.length ≤ j ∧ Hid ((catN ms).length ≤ 302 * (j + 1)) ∧ Hid (PkR x w wr pv ms) ∧ Hid (St x w wr j) ∧ Hid (pa gg (.se (ms.map NsM.e)) (x.ts.drop j) = Q))
 case atStart => exact ⟨[], i, Nat.le_refl _, Nat.zero_le _, by show _ ≤ _; simp [catN], PkR.start x w, HS0.out, HQ0.out⟩
 case round =>
   obtain ⟨ms, j, hgg, hml, HCL, HK, HS, HQ⟩ := hrel
   clear HS0 HQ0
   have hj300 : j ≤ 300 := Nat.le_trans HS.out.le hlen
   obtain ⟨gg, hgk⟩ : ∃ gg, gk = gg + 1 := by
     cases gk with
     | zero => exact absurd HQ.out.symm (HN.out _)
     | succ g => exact ⟨g, rfl⟩
   rw [hgk] at HQ
   have HGK := Lib.hid hgk
   have hggf : gg ≤ f := by omega
   clear hgk
   obtain ⟨Ap, cp, hpv, hcp⟩ := own_sl HK.out.row
   subst hpv
   cases hb : hdS [93] (x.ts.drop j) with
   | true =>
     have hqq := HQ.out
     rw [se_end hb, catN_map, List.length_map] at hqq
     have HQQ := Lib.hid hqq
     have HB := Lib.hid hb
     clear hb HQ hqq
     go_wp2_with fail
     refine (HS.out.take_yes ⟨#[93]⟩ _ l_sc (by rw [HS.out.sg (c := 93) (r := []) (by decide)]; exact HB.out)).mono ?_
     rintro r w1 ⟨rfl, S1, o1⟩
     have HK_1 := Lib.hid (HK.out.only o1 HLT.out)
     have XS1 := Lib.hid S1
     clear S1 o1 HK HS
     have HF := Lib.hid (HK_1.out.node XS1.out ⟨5, ms.length, ⟨#[]⟩, ⟨#[]⟩⟩ (by have := HCL.out; omega) (by omega) rfl HQQ.out)
     go_wp2_with fail
     refine HF.out.mono ?_
     rintro r w9 ⟨A9, c9, n9, rfl, hp⟩
     have HP := Lib.hid hp
     clear hp
     go_wp2_with fail
     go_ret
     exact HP.out
   | false =>
     have HB := Lib.hid hb
     have HDW := Lib.hid (HW.out gg hggf)
     by_cases h0 : ms = []
     · have hqq := HQ.out
       rw [se_one hb (by rw [h0]; rfl)] at hqq
       have HQQ := Lib.hid hqq
       have tl : decide (0 < ms.length) = false := by rw [h0]; rfl
       clear hb hqq HQ h0
       go_wp2_with fail
       refine (HS.out.take_no ⟨#[93]⟩ _ l_sc (by rw [HS.out.sg (c := 93) (r := []) (by decide)]; exact HB.out)).mono ?_
       rintro r w1 ⟨rfl, S1, o1⟩
       have HK_1 := Lib.hid (HK.out.only o1 HLT.out)
       have XS1 := Lib.hid S1
       clear S1 o1 HK HS
       go_wp2_with fail
       have hvb : ∀ b, (Value.slice Ap ms.length cp).ownBlock = some b → b < w1.heap.size := fun b hb => (own_lt HK_1.out.row hb).2
       have hzz : w.heap.size ≤ w1.heap.size := XS1.out.only.size
       refine (XS1.out.callF HDW.out HN.out trivial HQQ.out).mono ?_
       rintro r w2 (⟨k, j, rfl, hp⟩ | ⟨A2, c2, e2, j2, rfl, E2, S2, o2, q2, l2, b2⟩)
       · have HP := Lib.hid hp
         clear hp
         go_wp2_with fail
         exact ⟨rfl, HP.out⟩
       have HK2 := Lib.hid (HK_1.out.only o2 HLT.out)
       have HFAR := Lib.hid (E2.farG (w := w) (v := .slice Ap ms.length cp) hzz hvb)
       have HNE := Lib.hid E2.ne
       have HS2 := Lib.hid S2
       have HQ2 : Hid (pa gg (.se (ms.map NsM.e ++ [e2])) (x.ts.drop j2) = Q) := q2
       have HL2 : Hid (e2.length ≤ 300) := l2
       have HG2 : Hid (j + 1 ≤ j2) := b2
       clear E2 S2 q2 l2 b2 o2 hvb hzz HK_1 XS1 HQQ
       have hml2 : ms.length + 1 ≤ j2 := by have := HG2.out; omega
       have HROW : Hid ((w2.alloc (.cells #[.slice A2 e2.length c2] 22)).ownsRow w.heap.size 22 1 (.slice Ap ms.length cp) ms.length (flatG NsM.cells ms)) := own_keep HK2.out.row (by (repeat (first | assumption | exact Below.refl _ _ | apply Below.drew | apply below_drewN | (refine Below.alloc ?_ (by first | exact Nat.le_refl _ | omega | (simp; done) | (simp; omega)) _))))
       go_wp2_with (at_builtin; refine wpList_append_own_at _ rfl (.tmp 12) (.tmp 15) 143 rfl w.heap.size 22 i0 _ 1 24 Tryz.underlying143 hi0 hz0 hz1 hz2 rfl (by omega) _ ms.length (flatG NsM.cells ms) rfl HROW.out ⟨w2.heap.size, 0, none⟩ 1 1 [.slice A2 e2.length c2] rfl rfl (cell_one_new _ _ _) (by simp [Value.oneCell']) (by unfold maxLen; omega) (by omega) (by have := HS2.out.only.size; simp; omega) ?_; intro pv6 w60 hown6 hgrow6 _ hloc6)
       have HK6 := Lib.hid (HK2.out.more (y := ⟨A2, c2, e2⟩) HFAR.out HNE.out hown6 hgrow6 hloc6)
       have hbz : RowKit.Below w.heap.size w2 w60 := ((RowKit.Below.refl w.heap.size w2).alloc HS2.out.only.size _).grown hgrow6 (by have := HS2.out.only.size; simp; omega) (fun q hq => (own_lt HK2.out.row hq).1)
       have HS6 := Lib.hid (HS2.out.grown hbz)
       have HC6 : Hid ((catN (ms ++ [⟨A2, c2, e2⟩])).length ≤ 302 * (j2 + 1)) := by have h1 := HG2.out; have h2 := HL2.out; have h3 := HCL.out; show _ ≤ _; rw [catN_snoc, List.length_append]; simp only; omega
       have HQ6 : Hid (pa gg (.se ((ms ++ [(⟨A2, c2, e2⟩ : NsM)]).map NsM.e)) (x.ts.drop j2) = Q) := by show _ = _; rw [List.map_append]; exact HQ2.out
       clear hown6 hgrow6 hloc6 hbz HROW HK2 HFAR HNE HS2 HQ2
       go_wp2_with fail
       go_roundg gg
       case measure => have := HGK.out; omega
       case rel => exact ⟨ms ++ [⟨A2, c2, e2⟩], j2, by omega, by rw [List.length_append, List.length_singleton]; exact hml2, HC6, HK6, HS6, HQ6⟩
     · have hqq := HQ.out
       rw [se_more hb (by simpa using h0)] at hqq
       have HQQ := Lib.hid hqq
       have tl : decide (0 < ms.length) = true := by cases ms with
         | nil => exact absurd rfl h0
         | cons => simp
       clear hb hqq HQ h0
       go_wp2_with fail
       refine (HS.out.take_no ⟨#[93]⟩ _ l_sc (by rw [HS.out.sg (c := 93) (r := []) (by decide)]; exact HB.out)).mono ?_
       rintro r w1 ⟨rfl, S1, o1⟩
       have HK_1 := Lib.hid (HK.out.only o1 HLT.out)
       have XS1 := Lib.hid S1
       clear S1 o1 HK HS
       go_wp2_with fail
       refine (XS1.out.needS ⟨#[44]⟩ l_comma (by decide) HQQ.out).mono ?_
       rintro r w2 (⟨k, j, rfl, hp⟩ | ⟨rfl, S2, o2, q2⟩)
       · have HP := Lib.hid hp
         clear hp
         go_wp2_with fail
         exact ⟨rfl, HP.out⟩
       have HK_2 := Lib.hid (HK_1.out.only o2 HLT.out)
       have XS2 := Lib.hid S2
       have XQ2 := Lib.hid q2
       clear S2 q2 o2 HK_1 XS1 HQQ
       go_wp2_with fail
       have hvb : ∀ b, (Value.slice Ap ms.length cp).ownBlock = some b → b < w2.heap.size := fun b hb => (own_lt HK_2.out.row hb).2
       have hzz : w.heap.size ≤ w2.heap.size := XS2.out.only.size
       refine (XS2.out.callF HDW.out HN.out trivial XQ2.out).mono ?_
       rintro r w3 (⟨k, j, rfl, hp⟩ | ⟨A3, c3, e3, j3, rfl, E3, S3, o3, q3, l3, b3⟩)
       · have HP := Lib.hid hp
         clear hp
         go_wp2_with fail
         exact ⟨rfl, HP.out⟩
       have HK2 := Lib.hid (HK_2.out.only o3 HLT.out)
       have HFAR := Lib.hid (E3.farG (w := w) (v := .slice Ap ms.length cp) hzz hvb)
       have HNE := Lib.hid E3.ne
       have HS2 := Lib.hid S3
       have HQ2 : Hid (pa gg (.se (ms.map NsM.e ++ [e3])) (x.ts.drop j3) = Q) := q3
       have HL2 : Hid (e3.length ≤ 300) := l3
       have HG2 : Hid (j + 1 + 1 ≤ j3) := b3
       clear E3 S3 q3 l3 b3 o3 hvb hzz HK_2 XS2 XQ2
       have hml2 : ms.length + 1 ≤ j3 := by have := HG2.out; omega
       have HROW : Hid ((w3.alloc (.cells #[.slice A3 e3.length c3] 22)).ownsRow w.heap.size 22 1 (.slice Ap ms.length cp) ms.length (flatG NsM.cells ms)) := own_keep HK2.out.row (by (repeat (first | assumption | exact Below.refl _ _ | apply Below.drew | apply below_drewN | (refine Below.alloc ?_ (by first | exact Nat.le_refl _ | omega | (simp; done) | (simp; omega)) _))))
       go_wp2_with (at_builtin; refine wpList_append_own_at _ rfl (.tmp 12) (.tmp 15) 143 rfl w.heap.size 22 i0 _ 1 24 Tryz.underlying143 hi0 hz0 hz1 hz2 rfl (by omega) _ ms.length (flatG NsM.cells ms) rfl HROW.out ⟨w3.heap.size, 0, none⟩ 1 1 [.slice A3 e3.length c3] rfl rfl (cell_one_new _ _ _) (by simp [Value.oneCell']) (by unfold maxLen; omega) (by omega) (by have := HS2.out.only.size; simp; omega) ?_; intro pv6 w60 hown6 hgrow6 _ hloc6)
       have HK6 := Lib.hid (HK2.out.more (y := ⟨A3, c3, e3⟩) HFAR.out HNE.out hown6 hgrow6 hloc6)
       have hbz : RowKit.Below w.heap.size w3 w60 := ((RowKit.Below.refl w.heap.size w3).alloc HS2.out.only.size _).grown hgrow6 (by have := HS2.out.only.size; simp; omega) (fun q hq => (own_lt HK2.out.row hq).1)
       have HS6 := Lib.hid (HS2.out.grown hbz)
       have HC6 : Hid ((catN (ms ++ [⟨A3, c3, e3⟩])).length ≤ 302 * (j3 + 1)) := by have h1 := HG2.out; have h2 := HL2.out; have h3 := HCL.out; show _ ≤ _; rw [catN_snoc, List.length_append]; simp only; omega
       have HQ6 : Hid (pa gg (.se ((ms ++ [(⟨A3, c3, e3⟩ : NsM)]).map NsM.e)) (x.ts.drop j3) = Q) := by show _ = _; rw [List.map_append]; exact HQ2.out
       clear hown6 hgrow6 hloc6 hbz HROW HK2 HFAR HNE HS2 HQ2
       go_wp2_with fail
       go_roundg gg
       case measure => have := HGK.out; omega
       case rel => exact ⟨ms ++ [⟨A3, c3, e3⟩], j3, by omega, by rw [List.length_append, List.length_singleton]; exact hml2, HC6, HK6, HS6, HQ6⟩
end Go.Proofs.YtbggbcnfkcadjaaGreatDoor
namespace Go.Proofs.YtbggbcnfkcadjaaGreatDoor
set_option maxRecDepth 100000
open Go.RowKit Go.Sort
theorem l_cc : (⟨#[125]⟩ : ByteArray).toList = [125] := bsOf_list [125]
theorem l_colon : (⟨#[58]⟩ : ByteArray).toList = [58] := bsOf_list [58]
def fldR (g : Nat) (ps : List (List Nd)) (last : ByteArray) (ts : List Tk) : Pr := tokR (fun t => t.kind == 1 && !sLate last t.s) ts fun t r1 => needR [58] r1 fun r2 => (pa g .whole r2).bind fun e r3 => pa g (.re (ps ++ [opS 7 t.s e]) t.s) r3
theorem re_end {g : Nat} {ps : List (List Nd)} {last : ByteArray} {ts : List Tk} {j : Nat} (h : hdS [125] (ts.drop j) = true) : pa (g + 1) (.re ps last) (ts.drop j) = .ok (⟨6, ps.length, ⟨#[]⟩, ⟨#[]⟩⟩ :: ps.flatten) (ts.drop (j + 1)) := by
 show (if hdS [125] (ts.drop j) = true then _ else _) = _
 rw [if_pos h, tail_drop']
theorem re_one {g : Nat} {ps : List (List Nd)} {last : ByteArray} {ts : List Tk} {j : Nat} (h : hdS [125] (ts.drop j) = false) (h0 : ps = []) : pa (g + 1) (.re ps last) (ts.drop j) = fldR g ps last (ts.drop j) := by
 show (if hdS [125] (ts.drop j) = true then _ else if ps = [] then _ else _) = _
 rw [if_neg (by rw [h]; simp), if_pos h0]; rfl
theorem re_more {g : Nat} {ps : List (List Nd)} {last : ByteArray} {ts : List Tk} {j : Nat} (h : hdS [125] (ts.drop j) = false) (h0 : ps ≠ []) : pa (g + 1) (.re ps last) (ts.drop j) = needR [44] (ts.drop j) (fldR g ps last) := by
 show (if hdS [125] (ts.drop j) = true then _ else if ps = [] then _ else _) = _
 rw [if_neg (by rw [h]; simp), if_neg h0]; rfl
theorem fld_kind {g : Nat} {ps : List (List Nd)} {last : ByteArray} {ts : List Tk} (h : kdR ts ≠ 1) : fldR g ps last ts = .bad 1 ts := by
 cases ts with
 | nil => rfl
 | cons t r =>
   show (if (t.kind == 1 && !sLate last t.s) = true then _ else _) = _
   rw [if_neg (by have : t.kind ≠ 1 := h
                  simp [this])]
theorem fld_late {g : Nat} {ps : List (List Nd)} {last : ByteArray} {ts : List Tk} {j : Nat} {t : Tk} (ht : ts[j]? = some t) (hl : sLate last t.s = true) : fldR g ps last (ts.drop j) = .bad 1 (ts.drop j) := by
 rw [drop_cons ht]
 show (if (t.kind == 1 && !sLate last t.s) = true then _ else _) = _
 rw [if_neg (by rw [hl]; simp)]
theorem fld_go {g : Nat} {ps : List (List Nd)} {last : ByteArray} {ts : List Tk} {j : Nat} {t : Tk} (ht : ts[j]? = some t) (hk : t.kind = 1) (hl : sLate last t.s = false) : fldR g ps last (ts.drop j) = needR [58] (ts.drop (j + 1)) fun r2 => (pa g .whole r2).bind fun e r3 => pa g (.re (ps ++ [opS 7 t.s e]) t.s) r3 := by
 rw [drop_cons ht]
 show (if (t.kind == 1 && !sLate last t.s) = true then _ else _) = _
 rw [if_pos (by rw [hl, hk]; rfl)]
set_option maxHeartbeats 25600000 in
theorem ph_rec (x : Px) (f : Nat) (hw : ∀ g, g ≤ f → Does x 30 (pa g .whole)) : Does x 237 (pa f (.re [] ⟨#[]⟩)) := by
 intro w i hx hB hi hnb
 obtain ⟨i0, hi0, hz0, hz1, hz2⟩ := info_parts ns_info
 have S0 := St.start hx hB hi
 have hlen := hx.len
 have HS0 := Lib.hid S0
 have HLT := Lib.hid hB.lt
 have HW := Lib.hid hw
 obtain ⟨Q, hQ⟩ : ∃ Q, pa f (.re [] ⟨#[]⟩) (x.ts.drop i) = Q := ⟨_, rfl⟩
 rw [hQ] at hnb ⊢
 have HN := Lib.hid hnb
 have HQ0 := Lib.hid hQ
 clear hx hB hw hnb S0 hQ
 go_enter Tryz.func237, Tryz.ntmps237
 go_wp2_with fail
 go_loopg [3, 4] f (fun gg pv lv wr => ∃ (ms : List NsM) (j : Nat) (last : ByteArray), lv = .string last ∧ gg ≤ f ∧ ms.length ≤ j ∧ Hid ((catN ms).length ≤ 302 * (j + 1)) ∧ Hid (PkR x w wr pv ms) ∧ Hid (St x w wr j) ∧ Hid (pa gg (.re (ms.map NsM.e) last) (x.ts.drop j) = Q))
 case atStart => exact ⟨[], i, ⟨#[]⟩, rfl, Nat.le_refl _, Nat.zero_le _, by show _ ≤ _; simp [catN], PkR.start x w, HS0.out, HQ0.out⟩
 case round =>
   obtain ⟨ms, j, last, rfl, hgg, hml, HCL, HK, HS, HQ⟩ := hrel
   clear HS0 HQ0
   have hj300 : j ≤ 300 := Nat.le_trans HS.out.le hlen
   obtain ⟨gg, hgk⟩ : ∃ gg, gk = gg + 1 := by
     cases gk with
     | zero => exact absurd HQ.out.symm (HN.out _)
     | succ g => exact ⟨g, rfl⟩
   rw [hgk] at HQ
   have HGK := Lib.hid hgk
   have hggf : gg ≤ f := by omega
   clear hgk
   obtain ⟨Ap, cp, hpv, hcp⟩ := own_sl HK.out.row
   subst hpv
   cases hb : hdS [125] (x.ts.drop j) with
   | true =>
     have hqq := HQ.out
     rw [re_end hb, catN_map, List.length_map] at hqq
     have HQQ := Lib.hid hqq
     have HB := Lib.hid hb
     clear hb HQ hqq
     go_wp2_with fail
     refine (HS.out.take_yes ⟨#[125]⟩ _ l_cc (by rw [HS.out.sg (c := 125) (r := []) (by decide)]; exact HB.out)).mono ?_
     rintro r w1 ⟨rfl, S1, o1⟩
     have HK_1 := Lib.hid (HK.out.only o1 HLT.out)
     have XS1 := Lib.hid S1
     clear S1 o1 HK HS
     have HF := Lib.hid (HK_1.out.node XS1.out ⟨6, ms.length, ⟨#[]⟩, ⟨#[]⟩⟩ (by have := HCL.out; omega) (by omega) rfl HQQ.out)
     go_wp2_with fail
     refine HF.out.mono ?_
     rintro r w9 ⟨A9, c9, n9, rfl, hp⟩
     have HP := Lib.hid hp
     clear hp
     go_wp2_with fail
     go_ret
     exact HP.out
   | false =>
     have HB := Lib.hid hb
     have HDW := Lib.hid (HW.out gg hggf)
     by_cases h0 : ms = []
     · have hqq := HQ.out
       rw [re_one hb (by rw [h0]; rfl)] at hqq
       have HQQ := Lib.hid hqq
       have tl : decide (0 < ms.length) = false := by rw [h0]; rfl
       clear hb hqq HQ h0
       go_wp2_with fail
       refine (HS.out.take_no ⟨#[125]⟩ _ l_cc (by rw [HS.out.sg (c := 125) (r := []) (by decide)]; exact HB.out)).mono ?_
       rintro r w1 ⟨rfl, S1, o1⟩
       have HK_1 := Lib.hid (HK.out.only o1 HLT.out)
       have XS1 := Lib.hid S1
       clear S1 o1 HK HS
       by_cases k1 : kdR (x.ts.drop (j)) = 1
       case neg =>
         obtain ⟨kd, hkd⟩ : ∃ kd, kdR (x.ts.drop (j)) = kd := ⟨_, rfl⟩
         have tk : (kd != 1) = true := by rw [← hkd]; simpa using k1
         have HKD := Lib.hid hkd
         have HQb : Hid (.bad 1 (x.ts.drop (j)) = Q) := by show _ = _; rw [← HQQ.out]; exact (fld_kind k1).symm
         clear k1 hkd HQQ
         go_wp2_with fail
         refine wp_region_ord (S := fun W => W.cell? ⟨x.pb, 1, none⟩ = some (.int .i64 ((j : Nat) : Int))) [(0, false), (1, true), (2, false), (3, false), (4, false), (5, false), (6, false), (7, false), (8, false), (9, false), (10, false), (11, false), (12, false), (13, false), (14, false), (15, false), (16, false), (17, false)] (by kernel_rfl) (by kernel_rfl) (fun _ _ _ _ _ h => h) (XS1.out.drew.blk.cell 1) (fun hW' => ?_)
         simp only [ordOps, List.filterMap_cons, List.filterMap_nil, List.getElem?_cons_zero, List.getElem?_cons_succ, Option.map_some]
         (repeat (first | (refine hd_take (v := ?_) (by rfl) ?_ ?_; rotate_left; (focus (intro W hW; obtain s0 := hW; go_simp; try with_reducible rfl)); simp only [Act.put, List.setIfInBounds_toArray, List.set_cons_zero, List.set_cons_succ]) | (refine hd_skip (by rfl) ?_; simp only [Act.put, List.setIfInBounds_toArray, List.set_cons_zero, List.set_cons_succ])))
         clear hW'
         refine hd_call (fun K hK => ?_)
         go_simp
         refine (XS1.out.drew.kind kd HKD.out).mono ?_
         rintro r w2 ⟨rfl, S2, o2⟩
         refine hK _ _ (S2.blk.cell 1) ?_
         clear hK K
         (repeat (first | (refine hd_take (v := ?_) (by rfl) ?_ ?_; rotate_left; (focus (intro W hW; obtain s0 := hW; go_simp; try with_reducible rfl)); simp only [Act.put, List.setIfInBounds_toArray, List.set_cons_zero, List.set_cons_succ]) | (refine hd_skip (by rfl) ?_; simp only [Act.put, List.setIfInBounds_toArray, List.set_cons_zero, List.set_cons_succ])))
         refine hd_nil ?_
         have HK_2 := Lib.hid (HK_1.out.only (((Only.refl _ _ _).drew).trans o2) HLT.out)
         have XS2 := Lib.hid S2
         clear S2 o2 XS1 HK_1
         have HF := Lib.hid (ph_fail x (j) w2 XS2.out.blk)
         go_wp2_with fail
         refine HF.out.mono ?_
         rintro r w90 ⟨rfl, rfl⟩
         go_wp2_with fail
         exact ⟨rfl, by rw [← HQb.out]; exact XS2.out.no 1⟩
       case pos =>
       obtain ⟨t, ht, htk⟩ := kd_some k1 (by decide)
       obtain ⟨b, o, hA, -⟩ := XS1.out.inn.at_ ht
       have hltj : j < x.ts.length := (List.getElem?_eq_some_iff.1 ht).1
       have ti := tok_at b o x.ts.length x.c j hltj
       have HT := Lib.hid ht
       have HTK := Lib.hid htk
       have HA := Lib.hid hA
       have HKD := Lib.hid k1
       clear ht htk hA k1
       cases hlate : sLate last t.s with
       | true =>
         have HQb : Hid (.bad 1 (x.ts.drop (j)) = Q) := by show _ = _; rw [← HQQ.out]; exact (fld_late HT.out hlate).symm
         clear HQQ
         unfold sLate at hlate
         go_wp2_with fail
         refine wp_region_ord (S := PhS x (j) (j) b o t) [(0, false), (1, true), (2, false), (3, false), (4, false), (5, false), (6, false), (7, false), (8, false), (9, false), (10, false), (11, false), (12, false), (13, false), (14, false), (15, false), (16, false), (17, false)] (by kernel_rfl) (by kernel_rfl) (fun _ _ _ _ _ h => h) (XS1.out.drew.phs HT.out HA.out) (fun hW' => ?_)
         simp only [ordOps, List.filterMap_cons, List.filterMap_nil, List.getElem?_cons_zero, List.getElem?_cons_succ, Option.map_some]
         (repeat (first | (refine hd_take (v := ?_) (by rfl) ?_ ?_; rotate_left; (focus (intro W hW; obtain ⟨s0, s1, s2, s3, s4⟩ := hW; go_simp; try with_reducible rfl)); simp only [Act.put, List.setIfInBounds_toArray, List.set_cons_zero, List.set_cons_succ]) | (refine hd_skip (by rfl) ?_; simp only [Act.put, List.setIfInBounds_toArray, List.set_cons_zero, List.set_cons_succ])))
         clear hW'
         refine hd_call (fun K hK => ?_)
         go_simp
         refine (XS1.out.drew.kind 1 HKD.out).mono ?_
         rintro r w2 ⟨rfl, S2, o2⟩
         refine hK _ _ (S2.phs HT.out HA.out) ?_
         clear hK K
         (repeat (first | (refine hd_take (v := ?_) (by rfl) ?_ ?_; rotate_left; (focus (intro W hW; obtain ⟨s0, s1, s2, s3, s4⟩ := hW; go_simp; try with_reducible rfl)); simp only [Act.put, List.setIfInBounds_toArray, List.set_cons_zero, List.set_cons_succ]) | (refine hd_skip (by rfl) ?_; simp only [Act.put, List.setIfInBounds_toArray, List.set_cons_zero, List.set_cons_succ])))
         refine hd_nil ?_
         have HK_2 := Lib.hid (HK_1.out.only (((Only.refl _ _ _).drew).trans o2) HLT.out)
         have XS2 := Lib.hid S2
         clear S2 o2 XS1 HK_1
         have HF := Lib.hid (ph_fail x (j) w2 XS2.out.blk)
         go_wp2_with fail
         refine HF.out.mono ?_
         rintro r w90 ⟨rfl, rfl⟩
         go_wp2_with fail
         exact ⟨rfl, by rw [← HQb.out]; exact XS2.out.no 1⟩
       | false =>
         have hqf := HQQ.out
         have hqf : fldR gg (ms.map NsM.e) last (x.ts.drop (j)) = Q := hqf
         rw [fld_go HT.out HTK.out hlate] at hqf
         have HQf := Lib.hid hqf
         clear hqf HQQ
         unfold sLate at hlate
         go_wp2_with fail
         refine wp_region_ord (S := PhS x (j) (j) b o t) [(0, false), (1, true), (2, false), (3, false), (4, false), (5, false), (6, false), (7, false), (8, false), (9, false), (10, false), (11, false), (12, false), (13, false), (14, false), (15, false), (16, false), (17, false)] (by kernel_rfl) (by kernel_rfl) (fun _ _ _ _ _ h => h) (XS1.out.drew.phs HT.out HA.out) (fun hW' => ?_)
         simp only [ordOps, List.filterMap_cons, List.filterMap_nil, List.getElem?_cons_zero, List.getElem?_cons_succ, Option.map_some]
         (repeat (first | (refine hd_take (v := ?_) (by rfl) ?_ ?_; rotate_left; (focus (intro W hW; obtain ⟨s0, s1, s2, s3, s4⟩ := hW; go_simp; try with_reducible rfl)); simp only [Act.put, List.setIfInBounds_toArray, List.set_cons_zero, List.set_cons_succ]) | (refine hd_skip (by rfl) ?_; simp only [Act.put, List.setIfInBounds_toArray, List.set_cons_zero, List.set_cons_succ])))
         clear hW'
         refine hd_call (fun K hK => ?_)
         go_simp
         refine (XS1.out.drew.kind 1 HKD.out).mono ?_
         rintro r w2 ⟨rfl, S2, o2⟩
         refine hK _ _ (S2.phs HT.out HA.out) ?_
         clear hK K
         (repeat (first | (refine hd_take (v := ?_) (by rfl) ?_ ?_; rotate_left; (focus (intro W hW; obtain ⟨s0, s1, s2, s3, s4⟩ := hW; go_simp; try with_reducible rfl)); simp only [Act.put, List.setIfInBounds_toArray, List.set_cons_zero, List.set_cons_succ]) | (refine hd_skip (by rfl) ?_; simp only [Act.put, List.setIfInBounds_toArray, List.set_cons_zero, List.set_cons_succ])))
         refine hd_nil ?_
         have HK_2 := Lib.hid (HK_1.out.only (((Only.refl _ _ _).drew).trans o2) HLT.out)
         have XS2 := Lib.hid S2
         clear S2 o2 XS1 HK_1
         clear hlate ti
         go_wp2_with fail
         refine (XS2.out.word_yes 1 t HT.out HTK.out).mono ?_
         rintro r w3 ⟨rfl, S3, o3⟩
         have HK_3 := Lib.hid (HK_2.out.only o3 HLT.out)
         have XS3 := Lib.hid S3
         clear S3 o3 HK_2 XS2
         go_wp2_with fail
         refine (XS3.out.needS ⟨#[58]⟩ l_colon (by decide) HQf.out).mono ?_
         rintro r w4 (⟨k, j, rfl, hp⟩ | ⟨rfl, S4, o4, q4⟩)
         · have HP := Lib.hid hp
           clear hp
           go_wp2_with fail
           exact ⟨rfl, HP.out⟩
         have HK_4 := Lib.hid (HK_3.out.only o4 HLT.out)
         have XS4 := Lib.hid S4
         have XQ4 := Lib.hid q4
         clear S4 q4 o4 HK_3 XS3 HQf
         go_wp2_with fail
         refine (XS4.out.callF HDW.out HN.out trivial XQ4.out).mono ?_
         rintro r w5 (⟨k, jx, rfl, hp⟩ | ⟨A5, c5, e5, j5, rfl, E5, S5, o5, q5, l5, b5⟩)
         · have HP := Lib.hid hp
           clear hp
           go_wp2_with fail
           exact ⟨rfl, HP.out⟩
         have HK2 := Lib.hid (HK_4.out.only o5 HLT.out)
         have HE2 := Lib.hid E5
         have HS2 := Lib.hid S5
         have HQ2 : Hid (pa gg (.re (ms.map NsM.e ++ [opS 7 t.s e5]) t.s) (x.ts.drop j5) = Q) := q5
         have HL2 : Hid (e5.length ≤ 300) := l5
         have HG2 : Hid (j + 1 + 1 + 1 ≤ j5) := b5
         clear E5 S5 q5 l5 b5 o5 HK_4 XS4 XQ4
         have hvb : ∀ b, (Value.slice Ap ms.length cp).ownBlock = some b → b < w5.heap.size := fun b hb => (own_lt HK2.out.row hb).2
         have hzz : w.heap.size ≤ w5.heap.size := HS2.out.only.size
         go_wp2_with fail
         refine (HS2.out.nodeF ⟨7, 0, t.s, ⟨#[]⟩⟩ 22 [⟨A5, c5, e5⟩] #[.slice A5 e5.length c5] rfl (mem1 HE2.out) (by have := HL2.out; simp [catN]; omega) (by simp) (E := opS 7 t.s e5) (by simp [catN, opS])).mono ?_
         rintro r w70 ⟨A70, c70, rfl, E70, S70, o70⟩
         have HK3 := Lib.hid (HK2.out.only o70 HLT.out)
         have HFAR := Lib.hid (E70.farG (w := w) (v := .slice Ap ms.length cp) hzz hvb)
         have HNE := Lib.hid E70.ne
         have HS3 := Lib.hid S70
         have HLE : Hid ((opS 7 t.s e5).length ≤ 301) := by have := HL2.out; show _ ≤ _; simp [opS]; omega
         clear E70 S70 o70 hvb hzz HK2 HE2 HS2 HL2
         generalize opS 7 t.s e5 = EE at HFAR HNE HLE HQ2 ⊢
         have hml2 : ms.length + 1 ≤ j5 := by have := HG2.out; omega
         have HROW : Hid ((w70.alloc (.cells #[.slice A70 EE.length c70] 22)).ownsRow w.heap.size 22 1 (.slice Ap ms.length cp) ms.length (flatG NsM.cells ms)) := own_keep HK3.out.row (by (repeat (first | assumption | exact Below.refl _ _ | apply Below.drew | apply below_drewN | (refine Below.alloc ?_ (by first | exact Nat.le_refl _ | omega | (simp; done) | (simp; omega)) _))))
         go_wp2_with (at_builtin; refine wpList_append_own_at _ rfl (.tmp 37) (.tmp 44) 143 rfl w.heap.size 22 i0 _ 1 24 Tryz.underlying143 hi0 hz0 hz1 hz2 rfl (by omega) _ ms.length (flatG NsM.cells ms) rfl HROW.out ⟨w70.heap.size, 0, none⟩ 1 1 [.slice A70 EE.length c70] rfl rfl (cell_one_new _ _ _) (by simp [Value.oneCell']) (by unfold maxLen; omega) (by omega) (by have := HS3.out.only.size; simp; omega) ?_; intro pv6 w60 hown6 hgrow6 _ hloc6)
         have HK6 := Lib.hid (HK3.out.more (y := ⟨A70, c70, EE⟩) HFAR.out HNE.out hown6 hgrow6 hloc6)
         have hbz : RowKit.Below w.heap.size w70 w60 := ((RowKit.Below.refl w.heap.size w70).alloc HS3.out.only.size _).grown hgrow6 (by have := HS3.out.only.size; simp; omega) (fun q hq => (own_lt HK3.out.row hq).1)
         have HS6 := Lib.hid (HS3.out.grown hbz)
         have HC6 : Hid ((catN (ms ++ [(⟨A70, c70, EE⟩ : NsM)])).length ≤ 302 * (j5 + 1)) := by have h1 := HG2.out; have h2 := HLE.out; have h3 := HCL.out; show _ ≤ _; rw [catN_snoc, List.length_append]; simp only; omega
         have HQ6 : Hid (pa gg (.re ((ms ++ [(⟨A70, c70, EE⟩ : NsM)]).map NsM.e) t.s) (x.ts.drop j5) = Q) := by show _ = _; rw [List.map_append]; exact HQ2.out
         clear hown6 hgrow6 hloc6 hbz HROW HK3 HFAR HNE HS3 HQ2
         go_wp2_with fail
         go_roundg gg
         case measure => have := HGK.out; omega
         case rel => exact ⟨ms ++ [⟨A70, c70, EE⟩], j5, t.s, rfl, by omega, by rw [List.length_append, List.length_singleton]; exact hml2, HC6, HK6, HS6, HQ6⟩
     · have hqq := HQ.out
       rw [re_more hb (by simpa using h0)] at hqq
       have HQQ := Lib.hid hqq
       have tl : decide (0 < ms.length) = true := by cases ms with
         | nil => exact absurd rfl h0
         | cons => simp
       clear hb hqq HQ h0
       go_wp2_with fail
       refine (HS.out.take_no ⟨#[125]⟩ _ l_cc (by rw [HS.out.sg (c := 125) (r := []) (by decide)]; exact HB.out)).mono ?_
       rintro r w1 ⟨rfl, S1, o1⟩
       have HK_1 := Lib.hid (HK.out.only o1 HLT.out)
       have XS1 := Lib.hid S1
       clear S1 o1 HK HS
       go_wp2_with fail
       refine (XS1.out.needS ⟨#[44]⟩ l_comma (by decide) HQQ.out).mono ?_
       rintro r w2 (⟨k, j, rfl, hp⟩ | ⟨rfl, S2, o2, q2⟩)
       · have HP := Lib.hid hp
         clear hp
         go_wp2_with fail
         exact ⟨rfl, HP.out⟩
       have HK_2 := Lib.hid (HK_1.out.only o2 HLT.out)
       have XS2 := Lib.hid S2
       have XQ2 := Lib.hid q2
       clear S2 q2 o2 HK_1 XS1 HQQ
       by_cases k1 : kdR (x.ts.drop (j + 1)) = 1
       case neg =>
         obtain ⟨kd, hkd⟩ : ∃ kd, kdR (x.ts.drop (j + 1)) = kd := ⟨_, rfl⟩
         have tk : (kd != 1) = true := by rw [← hkd]; simpa using k1
         have HKD := Lib.hid hkd
         have HQb : Hid (.bad 1 (x.ts.drop (j + 1)) = Q) := by show _ = _; rw [← XQ2.out]; exact (fld_kind k1).symm
         clear k1 hkd XQ2
         go_wp2_with fail
         refine wp_region_ord (S := fun W => W.cell? ⟨x.pb, 1, none⟩ = some (.int .i64 ((j + 1 : Nat) : Int))) [(0, false), (1, true), (2, false), (3, false), (4, false), (5, false), (6, false), (7, false), (8, false), (9, false), (10, false), (11, false), (12, false), (13, false), (14, false), (15, false), (16, false), (17, false)] (by kernel_rfl) (by kernel_rfl) (fun _ _ _ _ _ h => h) (XS2.out.drew.blk.cell 1) (fun hW' => ?_)
         simp only [ordOps, List.filterMap_cons, List.filterMap_nil, List.getElem?_cons_zero, List.getElem?_cons_succ, Option.map_some]
         (repeat (first | (refine hd_take (v := ?_) (by rfl) ?_ ?_; rotate_left; (focus (intro W hW; obtain s0 := hW; go_simp; try with_reducible rfl)); simp only [Act.put, List.setIfInBounds_toArray, List.set_cons_zero, List.set_cons_succ]) | (refine hd_skip (by rfl) ?_; simp only [Act.put, List.setIfInBounds_toArray, List.set_cons_zero, List.set_cons_succ])))
         clear hW'
         refine hd_call (fun K hK => ?_)
         go_simp
         refine (XS2.out.drew.kind kd HKD.out).mono ?_
         rintro r w3 ⟨rfl, S3, o3⟩
         refine hK _ _ (S3.blk.cell 1) ?_
         clear hK K
         (repeat (first | (refine hd_take (v := ?_) (by rfl) ?_ ?_; rotate_left; (focus (intro W hW; obtain s0 := hW; go_simp; try with_reducible rfl)); simp only [Act.put, List.setIfInBounds_toArray, List.set_cons_zero, List.set_cons_succ]) | (refine hd_skip (by rfl) ?_; simp only [Act.put, List.setIfInBounds_toArray, List.set_cons_zero, List.set_cons_succ])))
         refine hd_nil ?_
         have HK_3 := Lib.hid (HK_2.out.only (((Only.refl _ _ _).drew).trans o3) HLT.out)
         have XS3 := Lib.hid S3
         clear S3 o3 XS2 HK_2
         have HF := Lib.hid (ph_fail x (j + 1) w3 XS3.out.blk)
         go_wp2_with fail
         refine HF.out.mono ?_
         rintro r w90 ⟨rfl, rfl⟩
         go_wp2_with fail
         exact ⟨rfl, by rw [← HQb.out]; exact XS3.out.no 1⟩
       case pos =>
       obtain ⟨t, ht, htk⟩ := kd_some k1 (by decide)
       obtain ⟨b, o, hA, -⟩ := XS2.out.inn.at_ ht
       have hltj : j + 1 < x.ts.length := (List.getElem?_eq_some_iff.1 ht).1
       have ti := tok_at1 b o x.ts.length x.c j hltj
       have HT := Lib.hid ht
       have HTK := Lib.hid htk
       have HA := Lib.hid hA
       have HKD := Lib.hid k1
       clear ht htk hA k1
       cases hlate : sLate last t.s with
       | true =>
         have HQb : Hid (.bad 1 (x.ts.drop (j + 1)) = Q) := by show _ = _; rw [← XQ2.out]; exact (fld_late HT.out hlate).symm
         clear XQ2
         unfold sLate at hlate
         go_wp2_with fail
         refine wp_region_ord (S := PhS x (j + 1) (j + 1) b o t) [(0, false), (1, true), (2, false), (3, false), (4, false), (5, false), (6, false), (7, false), (8, false), (9, false), (10, false), (11, false), (12, false), (13, false), (14, false), (15, false), (16, false), (17, false)] (by kernel_rfl) (by kernel_rfl) (fun _ _ _ _ _ h => h) (XS2.out.drew.phs HT.out HA.out) (fun hW' => ?_)
         simp only [ordOps, List.filterMap_cons, List.filterMap_nil, List.getElem?_cons_zero, List.getElem?_cons_succ, Option.map_some]
         (repeat (first | (refine hd_take (v := ?_) (by rfl) ?_ ?_; rotate_left; (focus (intro W hW; obtain ⟨s0, s1, s2, s3, s4⟩ := hW; go_simp; try with_reducible rfl)); simp only [Act.put, List.setIfInBounds_toArray, List.set_cons_zero, List.set_cons_succ]) | (refine hd_skip (by rfl) ?_; simp only [Act.put, List.setIfInBounds_toArray, List.set_cons_zero, List.set_cons_succ])))
         clear hW'
         refine hd_call (fun K hK => ?_)
         go_simp
         refine (XS2.out.drew.kind 1 HKD.out).mono ?_
         rintro r w3 ⟨rfl, S3, o3⟩
         refine hK _ _ (S3.phs HT.out HA.out) ?_
         clear hK K
         (repeat (first | (refine hd_take (v := ?_) (by rfl) ?_ ?_; rotate_left; (focus (intro W hW; obtain ⟨s0, s1, s2, s3, s4⟩ := hW; go_simp; try with_reducible rfl)); simp only [Act.put, List.setIfInBounds_toArray, List.set_cons_zero, List.set_cons_succ]) | (refine hd_skip (by rfl) ?_; simp only [Act.put, List.setIfInBounds_toArray, List.set_cons_zero, List.set_cons_succ])))
         refine hd_nil ?_
         have HK_3 := Lib.hid (HK_2.out.only (((Only.refl _ _ _).drew).trans o3) HLT.out)
         have XS3 := Lib.hid S3
         clear S3 o3 XS2 HK_2
         have HF := Lib.hid (ph_fail x (j + 1) w3 XS3.out.blk)
         go_wp2_with fail
         refine HF.out.mono ?_
         rintro r w90 ⟨rfl, rfl⟩
         go_wp2_with fail
         exact ⟨rfl, by rw [← HQb.out]; exact XS3.out.no 1⟩
       | false =>
         have hqf := XQ2.out
         have hqf : fldR gg (ms.map NsM.e) last (x.ts.drop (j + 1)) = Q := hqf
         rw [fld_go HT.out HTK.out hlate] at hqf
         have HQf := Lib.hid hqf
         clear hqf XQ2
         unfold sLate at hlate
         go_wp2_with fail
         refine wp_region_ord (S := PhS x (j + 1) (j + 1) b o t) [(0, false), (1, true), (2, false), (3, false), (4, false), (5, false), (6, false), (7, false), (8, false), (9, false), (10, false), (11, false), (12, false), (13, false), (14, false), (15, false), (16, false), (17, false)] (by kernel_rfl) (by kernel_rfl) (fun _ _ _ _ _ h => h) (XS2.out.drew.phs HT.out HA.out) (fun hW' => ?_)
         simp only [ordOps, List.filterMap_cons, List.filterMap_nil, List.getElem?_cons_zero, List.getElem?_cons_succ, Option.map_some]
         (repeat (first | (refine hd_take (v := ?_) (by rfl) ?_ ?_; rotate_left; (focus (intro W hW; obtain ⟨s0, s1, s2, s3, s4⟩ := hW; go_simp; try with_reducible rfl)); simp only [Act.put, List.setIfInBounds_toArray, List.set_cons_zero, List.set_cons_succ]) | (refine hd_skip (by rfl) ?_; simp only [Act.put, List.setIfInBounds_toArray, List.set_cons_zero, List.set_cons_succ])))
         clear hW'
         refine hd_call (fun K hK => ?_)
         go_simp
         refine (XS2.out.drew.kind 1 HKD.out).mono ?_
         rintro r w3 ⟨rfl, S3, o3⟩
         refine hK _ _ (S3.phs HT.out HA.out) ?_
         clear hK K
         (repeat (first | (refine hd_take (v := ?_) (by rfl) ?_ ?_; rotate_left; (focus (intro W hW; obtain ⟨s0, s1, s2, s3, s4⟩ := hW; go_simp; try with_reducible rfl)); simp only [Act.put, List.setIfInBounds_toArray, List.set_cons_zero, List.set_cons_succ]) | (refine hd_skip (by rfl) ?_; simp only [Act.put, List.setIfInBounds_toArray, List.set_cons_zero, List.set_cons_succ])))
         refine hd_nil ?_
         have HK_3 := Lib.hid (HK_2.out.only (((Only.refl _ _ _).drew).trans o3) HLT.out)
         have XS3 := Lib.hid S3
         clear S3 o3 XS2 HK_2
         clear hlate ti
         go_wp2_with fail
         refine (XS3.out.word_yes 1 t HT.out HTK.out).mono ?_
         rintro r w4 ⟨rfl, S4, o4⟩
         have HK_4 := Lib.hid (HK_3.out.only o4 HLT.out)
         have XS4 := Lib.hid S4
         clear S4 o4 HK_3 XS3
         go_wp2_with fail
         refine (XS4.out.needS ⟨#[58]⟩ l_colon (by decide) HQf.out).mono ?_
         rintro r w5 (⟨k, j, rfl, hp⟩ | ⟨rfl, S5, o5, q5⟩)
         · have HP := Lib.hid hp
           clear hp
           go_wp2_with fail
           exact ⟨rfl, HP.out⟩
         have HK_5 := Lib.hid (HK_4.out.only o5 HLT.out)
         have XS5 := Lib.hid S5
         have XQ5 := Lib.hid q5
         clear S5 q5 o5 HK_4 XS4 HQf
         go_wp2_with fail
         refine (XS5.out.callF HDW.out HN.out trivial XQ5.out).mono ?_
         rintro r w6 (⟨k, jx, rfl, hp⟩ | ⟨A6, c6, e6, j6, rfl, E6, S6, o6, q6, l6, b6⟩)
         · have HP := Lib.hid hp
           clear hp
           go_wp2_with fail
           exact ⟨rfl, HP.out⟩
         have HK2 := Lib.hid (HK_5.out.only o6 HLT.out)
         have HE2 := Lib.hid E6
         have HS2 := Lib.hid S6
         have HQ2 : Hid (pa gg (.re (ms.map NsM.e ++ [opS 7 t.s e6]) t.s) (x.ts.drop j6) = Q) := q6
         have HL2 : Hid (e6.length ≤ 300) := l6
         have HG2 : Hid (j + 1 + 1 + 1 + 1 ≤ j6) := b6
         clear E6 S6 q6 l6 b6 o6 HK_5 XS5 XQ5
         have hvb : ∀ b, (Value.slice Ap ms.length cp).ownBlock = some b → b < w6.heap.size := fun b hb => (own_lt HK2.out.row hb).2
         have hzz : w.heap.size ≤ w6.heap.size := HS2.out.only.size
         go_wp2_with fail
         refine (HS2.out.nodeF ⟨7, 0, t.s, ⟨#[]⟩⟩ 22 [⟨A6, c6, e6⟩] #[.slice A6 e6.length c6] rfl (mem1 HE2.out) (by have := HL2.out; simp [catN]; omega) (by simp) (E := opS 7 t.s e6) (by simp [catN, opS])).mono ?_
         rintro r w70 ⟨A70, c70, rfl, E70, S70, o70⟩
         have HK3 := Lib.hid (HK2.out.only o70 HLT.out)
         have HFAR := Lib.hid (E70.farG (w := w) (v := .slice Ap ms.length cp) hzz hvb)
         have HNE := Lib.hid E70.ne
         have HS3 := Lib.hid S70
         have HLE : Hid ((opS 7 t.s e6).length ≤ 301) := by have := HL2.out; show _ ≤ _; simp [opS]; omega
         clear E70 S70 o70 hvb hzz HK2 HE2 HS2 HL2
         generalize opS 7 t.s e6 = EE at HFAR HNE HLE HQ2 ⊢
         have hml2 : ms.length + 1 ≤ j6 := by have := HG2.out; omega
         have HROW : Hid ((w70.alloc (.cells #[.slice A70 EE.length c70] 22)).ownsRow w.heap.size 22 1 (.slice Ap ms.length cp) ms.length (flatG NsM.cells ms)) := own_keep HK3.out.row (by (repeat (first | assumption | exact Below.refl _ _ | apply Below.drew | apply below_drewN | (refine Below.alloc ?_ (by first | exact Nat.le_refl _ | omega | (simp; done) | (simp; omega)) _))))
         go_wp2_with (at_builtin; refine wpList_append_own_at _ rfl (.tmp 37) (.tmp 44) 143 rfl w.heap.size 22 i0 _ 1 24 Tryz.underlying143 hi0 hz0 hz1 hz2 rfl (by omega) _ ms.length (flatG NsM.cells ms) rfl HROW.out ⟨w70.heap.size, 0, none⟩ 1 1 [.slice A70 EE.length c70] rfl rfl (cell_one_new _ _ _) (by simp [Value.oneCell']) (by unfold maxLen; omega) (by omega) (by have := HS3.out.only.size; simp; omega) ?_; intro pv6 w60 hown6 hgrow6 _ hloc6)
         have HK6 := Lib.hid (HK3.out.more (y := ⟨A70, c70, EE⟩) HFAR.out HNE.out hown6 hgrow6 hloc6)
         have hbz : RowKit.Below w.heap.size w70 w60 := ((RowKit.Below.refl w.heap.size w70).alloc HS3.out.only.size _).grown hgrow6 (by have := HS3.out.only.size; simp; omega) (fun q hq => (own_lt HK3.out.row hq).1)
         have HS6 := Lib.hid (HS3.out.grown hbz)
         have HC6 : Hid ((catN (ms ++ [(⟨A70, c70, EE⟩ : NsM)])).length ≤ 302 * (j6 + 1)) := by have h1 := HG2.out; have h2 := HLE.out; have h3 := HCL.out; show _ ≤ _; rw [catN_snoc, List.length_append]; simp only; omega
         have HQ6 : Hid (pa gg (.re ((ms ++ [(⟨A70, c70, EE⟩ : NsM)]).map NsM.e) t.s) (x.ts.drop j6) = Q) := by show _ = _; rw [List.map_append]; exact HQ2.out
         clear hown6 hgrow6 hloc6 hbz HROW HK3 HFAR HNE HS3 HQ2
         go_wp2_with fail
         go_roundg gg
         case measure => have := HGK.out; omega
         case rel => exact ⟨ms ++ [⟨A70, c70, EE⟩], j6, t.s, rfl, by omega, by rw [List.length_append, List.length_singleton]; exact hml2, HC6, HK6, HS6, HQ6⟩
end Go.Proofs.YtbggbcnfkcadjaaGreatDoor
namespace Go.Proofs.YtbggbcnfkcadjaaGreatDoor
set_option maxRecDepth 100000
open Go.RowKit Go.Sort
structure AllD (x : Px) (f : Nat) : Prop where
 wh : Does x 30 (pa f .whole)
 c1 : Does x 60 (pa f (.ch 1))
 c2 : Does x 98 (pa f (.ch 2))
 rl : Does x 134 (pa f .rel)
 c4 : Does x 159 (pa f (.ch 4))
 c5 : Does x 177 (pa f (.ch 5))
 sg : Does x 194 (pa f .sign)
 at_ : Does x 224 (pa f .atom)
 se : Does x 236 (pa f (.se []))
 re : Does x 237 (pa f (.re [] ⟨#[]⟩))
theorem does_zero (x : Px) (fn : Nat) (a : PT) : Does x fn (pa 0 a) := fun _ _ _ _ _ hnb => absurd rfl (hnb _)
theorem all_does (x : Px) : ∀ f, AllD x f := by
 intro f
 induction f using Nat.strongRecOn with
 | _ f ih =>
   cases f with
   | zero => exact ⟨does_zero _ _ _, does_zero _ _ _, does_zero _ _ _, does_zero _ _ _, does_zero _ _ _, does_zero _ _ _, does_zero _ _ _, does_zero _ _ _, does_zero _ _ _, does_zero _ _ _⟩
   | succ f =>
     have H : ∀ g, g ≤ f → AllD x g := fun g hg => ih g (by omega)
     have h := H f (Nat.le_refl _)
     have hwh := ph_whole x f h.wh h.c1
     have hW : ∀ g, g ≤ f + 1 → Does x 30 (pa g .whole) := fun g hg => by
       rcases Nat.lt_or_ge g (f + 1) with h1 | h1
       · exact (H g (by omega)).wh
       · have : g = f + 1 := by omega
         subst this; exact hwh
     exact ⟨hwh, ph_either x f (fun g hg => (H g hg).c2), ph_both x f (fun g hg => (H g hg).rl), ph_rel x f h.c4, ph_sum x f (fun g hg => (H g hg).c5), ph_prod x f (fun g hg => (H g hg).sg),
       ph_sign x f h.sg (ph_post x f h.at_ (fun g hg => (H g hg).wh)), ph_atom x f h.wh h.se h.re, ph_set x (f + 1) hW, ph_rec x (f + 1) hW⟩
theorem assert_wrongP (k a : Int) (w : World) : (Instr.typeAssert (.iface 68 (.agg #[.int .i64 k, .int .i64 a])) 20 68 true).run Tryz.prog w = .ok (.tuple #[.agg #[.int .i64 k, .int .i64 a], .bool true]) w := by kernel_rfl
set_option maxHeartbeats 800000 in
theorem parse_idle (p q r : Addr) (w : World) :
   CallsD Tryz.prog 29 #[.pointer (some p), .pointer (some q), .pointer (some r)] .returning w fun e u' w' => e = .returned (.tuple #[]) ∧ u' = .returning ∧ w' = w := by
 refine callsD_of_wpS Tryz.func29 rfl fun c₀ cs hu => ?_
 apply wpS_seq
 apply wpS_region
 simp [wpOpsS, go_sem, recoverD, hu, Tryz.ntmps29, Exit.thenS]
 refine wpS_of_wp ?_
 simp only [Array.replicate_succ, Array.replicate_zero, List.push_toArray, List.nil_append, List.cons_append]
 go_wp2
 cases c₀
 simp_all [bodyPostS, results, Tryz.results29]
def CaughtP (b : Nat) (k a : Int) (w w' : World) : Prop :=
 w'.cell? ⟨b, 0, none⟩ = some (.slice none 0 0) ∧ w'.cell? ⟨b + 1, 0, none⟩ = some (.int .i64 a) ∧ w'.cell? ⟨b + 2, 0, none⟩ = some (.iface 33 (.int .i64 k)) ∧ RowKit.Below b w w'
set_option maxHeartbeats 1600000 in
theorem parse_catch (b : Nat) (x y z : Value) (k a : Int) (older : List PanicEntry) (w : World) (hx : Blk w b 22 #[x]) (hy : Blk w (b + 1) 3 #[y]) (hz : Blk w (b + 2) 25 #[z]) :
   CallsD Tryz.prog 29 #[.pointer (some ⟨b, 0, none⟩), .pointer (some ⟨b + 1, 0, none⟩), .pointer (some ⟨b + 2, 0, none⟩)] (.panicking ({ v := .iface 68 (.agg #[.int .i64 k, .int .i64 a]), recovered := false } :: older)) w fun e u' w' =>
     e = .returned (.tuple #[]) ∧ u' = .panicking ({ v := .iface 68 (.agg #[.int .i64 k, .int .i64 a]), recovered := true } :: older) ∧ CaughtP b k a w w' := by
 have hta := assert_wrongP k a
 have lx := hx.lt
 have ly := hy.lt
 have lz := hz.lt
 have cx := hx.cell 0
 have cy := hy.cell 0
 have cz := hz.cell 0
 have fx := hx.frozen 0
 have fy := hy.frozen 0
 have fz := hz.frozen 0
 simp only [List.getElem?_toArray, List.getElem?_cons_zero] at cx cy cz
 clear hx hy hz
 refine callsD_of_wpS Tryz.func29 rfl fun c₀ cs hu => ?_
 apply wpS_seq
 apply wpS_region
 simp [wpOpsS, go_sem, recoverD, hu, Tryz.ntmps29, Exit.thenS]
 refine wpS_of_wp ?_
 simp only [Array.replicate_succ, Array.replicate_zero, List.push_toArray, List.nil_append, List.cons_append]
 go_wp2
 have g0 : (w.alloc (.cells #[.int .i64 k, .int .i64 a] 68)).cell? ⟨w.heap.size, 0, none⟩ = some (.int .i64 k) := by simp [go_sem]
 have g1 : (w.alloc (.cells #[.int .i64 k, .int .i64 a] 68)).cell? ⟨w.heap.size, 1, none⟩ = some (.int .i64 a) := by simp [go_sem]
 have hbw : RowKit.Below w.heap.size w (w.alloc (.cells #[.int .i64 k, .int .i64 a] 68)) := by (repeat (first | assumption | exact Below.refl _ _ | apply Below.drew | apply below_drewN | (refine Below.alloc ?_ (by first | exact Nat.le_refl _ | omega | (simp; done) | (simp; omega)) _)))
 obtain ⟨hcc, hff⟩ := bcell hbw
 have cx1 := (hcc b 0 lx).trans cx
 have cy1 := (hcc (b + 1) 0 ly).trans cy
 have cz1 := (hcc (b + 2) 0 lz).trans cz
 have fx1 := (hff b 0 lx).trans fx
 have fy1 := (hff (b + 1) 0 ly).trans fy
 have fz1 := (hff (b + 2) 0 lz).trans fz
 have hn0 : ¬ w.heap.size = b := by omega
 have hn1 : ¬ w.heap.size = b + 1 := by omega
 have hn2 : ¬ w.heap.size = b + 2 := by omega
 have hm0 : ¬ b = w.heap.size := by omega
 have hm1 : ¬ b + 1 = w.heap.size := by omega
 have hm2 : ¬ b + 2 = w.heap.size := by omega
 have HBW := Lib.hid hbw
 clear hcc hff cx cy cz fx fy fz hbw
 generalize (w.alloc (.cells #[.int .i64 k, .int .i64 a] 68)) = w1 at *
 go_region
 go_wp2
 simp [bodyPostS, results, Tryz.results29]
 have hb1 : ¬ b = b + 1 := by omega
 have hb2 : ¬ b = b + 2 := by omega
 have hb3 : ¬ b + 1 = b + 2 := by omega
 have hbw := HBW.out.mono (show b ≤ w.heap.size by omega)
 refine ⟨?_, ?_, ?_, (((hbw.setCell (p := ⟨b, 0, none⟩) (Nat.le_refl _) _).setCell (p := ⟨b + 1, 0, none⟩) (Nat.le_succ _) _).setCell (p := ⟨b + 2, 0, none⟩) (Nat.le_add_right _ _) _).drew⟩
 · simp [go_sem]
   exact World.cell?_setCell_same _ _ _ cx1
 · simp [go_sem]
   exact World.cell?_setCell_same _ _ _ ((World.cell?_setCell_other _ _ _ _ (by simp)).trans cy1)
 · exact World.cell?_setCell_same _ _ _ (((World.cell?_setCell_other _ _ _ _ (by simp)).trans (World.cell?_setCell_other _ _ _ _ (by simp))).trans cz1)
end Go.Proofs.YtbggbcnfkcadjaaGreatDoor
