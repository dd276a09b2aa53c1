/-
  THE WALKS: word.Spell.
  THE WALKS: phrase.Parse: for any words.
-/
import Derived.Test.YtbggbcnfkcadjaaGreatDoorPe11
import Derived.Test.YtbggbcnfkcadjaaGreatDoorPe10
import Derived.Defers
namespace Go.Proofs.YtbggbcnfkcadjaaGreatDoor
open Go.RowKit Go.Sort
theorem all_snoc (p : Tk → Bool) (xs : List Tk) (k : Nat) (x : Tk) (h : (xs.take k).all p = true) (hx : xs[k]? = some x) (hp : p x = true) : (xs.take (k + 1)).all p = true := by
 rw [List.take_add_one, hx, List.all_append, h]; simp [hp]
theorem map_snoc {β : Type} (f : Tk → β) (xs : List Tk) (k : Nat) (x : Tk) (hx : xs[k]? = some x) : (xs.take (k + 1)).map f = (xs.take k).map f ++ [f x] := by
 rw [List.take_add_one, hx]; simp
def sp1 (x : Tk) : List UInt8 := (speltP x).1
def lineC (xs : List Tk) (k : Nat) : List Value := ((xs.take k).map sp1).map encStr
theorem lineC_succ (xs : List Tk) (k : Nat) (x : Tk) (hx : xs[k]? = some x) : lineC xs (k + 1) = lineC xs k ++ [encStr (sp1 x)] := by
 unfold lineC; rw [map_snoc sp1 xs k x hx, List.map_append]; rfl
theorem own_form1 {w : World} {B : Nat} {e : TypeId} {v : Value} {k : Nat} {cs : List Value} (h : w.ownsRow B e 1 v (k + 1) cs) : ∃ g c, v = .slice (some ⟨g, 0, none⟩) (k + 1) c := by
 rcases h.2 with ⟨_, h0⟩ | ⟨g, c, _, hv, _⟩
 · cases h0
 · exact ⟨g, c, hv⟩
set_option maxRecDepth 100000 in
set_option maxHeartbeats 3200000 in
theorem word_Spell (xs : List Tk) (A : Option Addr) (c : Nat) (w : World) (hs : TkSl w w.heap.size A xs) (hl : xs.length ≤ 9223372036854775807) (hz : ∀ x ∈ xs, x.s.size ≤ 140737488351232) :
   Calls Tryz.prog 28 #[.slice A xs.length c] w fun e w' => e = .returned (.tuple #[encStr (spellP xs).1, errV (spellP xs).2]) ∧ Below w.heap.size w w' := by
 obtain ⟨q, hq⟩ : ∃ q, spellP xs = q := ⟨_, rfl⟩
 rw [hq]
 have HS := Lib.hid hs
 have HZ := Lib.hid hz
 clear hs hz
 by_cases h3 : 300 < xs.length
 · have HQ : Hid (q = ([], 4)) := by show _ = _; rw [← hq, spellP, if_pos h3]
   clear hq
   go_enter Tryz.func28, Tryz.ntmps28
   go_wp2_with fail
   go_ret2
   rw [HQ.out]
   exact ⟨rfl, Below.refl _ _⟩
 · obtain ⟨i0, hi, hz0, hz1, hz2⟩ := info_parts string_infoQ
   go_enter Tryz.func28, Tryz.ntmps28
   have HQ := Lib.hid hq
   clear hq
   go_wp2_with fail
   go_loopw [4, 16] (fun vv ii wr => ∃ (k : Nat) (A2 : Option Addr) (c2 : Nat), ii = .int .i64 k ∧ vv = .slice A2 k c2 ∧ k ≤ xs.length ∧ Hid (wr.ownsRow w.heap.size 9 1 (.slice A2 k c2) k (lineC xs k)) ∧ Hid ((xs.take k).all (fun x => (speltP x).2) = true) ∧ Below w.heap.size w wr) (fun _ ii _ => xs.length - (intOf ii).toNat)
   case atStart => exact ⟨0, none, 0, rfl, rfl, by omega, World.ownsRow_nil _ _ _ _, by simp [Hid], Below.refl _ _⟩
   case round =>
     obtain ⟨k, A2, c2, rfl, rfl, hk, HO, HA, hb⟩ := hrel
     by_cases hlt : k < xs.length
     · obtain ⟨x, hx⟩ : ∃ x, xs[k]? = some x := ⟨_, List.getElem?_eq_getElem hlt⟩
       obtain ⟨b, o, rfl, hbb, ⟨d0, d1, d2⟩⟩ := tkSl_at (HS.out.below hb) hx
       have hsz := hb.size
       have hxz := HZ.out x (List.mem_of_getElem? hx)
       have HX := Lib.hid hx
       clear hx
       obtain ⟨r, hr⟩ : ∃ r, speltP x = r := ⟨_, rfl⟩
       have HP := Lib.hid (fun W => word_spelt x W hxz)
       rw [hr] at HP
       obtain ⟨tx, is⟩ := r
       have HR := Lib.hid hr
       clear hr
       cases is with
       | false =>
         go_wp2_with fail
         refine (HP.out _).mono ?_
         rintro e w1 ⟨rfl, hb1⟩
         go_wp2_with fail
         go_ret2
         have hq : q = ([], 1) := by
           rw [← HQ.out, spellP, if_neg h3, if_pos]
           rw [← Bool.not_eq_true, List.all_eq_true]
           intro h
           have := h x (List.mem_of_getElem? HX.out)
           rw [HR.out] at this
           cases this
         rw [hq]
         exact ⟨rfl, (hb.alloc hsz _).trans (hb1.mono (by simp; omega))⟩
       | true =>
         go_wp2_with fail
         refine (HP.out _).mono ?_
         rintro e w1 ⟨rfl, hb1⟩
         have hbw1 : Below w.heap.size w w1 := (hb.alloc hsz _).trans (hb1.mono (by simp; omega))
         have HO1 : Hid (w1.ownsRow w.heap.size 9 1 (.slice A2 k c2) k (lineC xs k)) := own_keep (HO.out.alloc _) hb1
         have hsz1 := hbw1.size
         clear hb1
         go_wp2_with (at_builtin; refine wpList_append_own _ rfl (.tmp 28) (.tmp 30) 44 rfl w.heap.size 9 i0 _ 1 16 Tryz.underlying44 hi hz0 hz1 hz2 rfl (by omega) (.slice A2 k c2) k (lineC xs k) rfl (HO1.out.alloc _) ⟨w1.heap.size, 0, none⟩ 1 1 [encStr tx] rfl rfl (new_one _ _ _ _ (by simp)) (by intro u hu; simp at hu; subst hu; rfl) (by unfold maxLen; omega) (by omega) (by simp; omega) ?_)
         intro v1 w2 hown2 hgrow2 _
         have hown3 : w2.ownsRow w.heap.size 9 1 v1 (k + 1) (lineC xs (k + 1)) := by
           rw [lineC_succ xs k x HX.out]
           have e : sp1 x = tx := by unfold sp1; rw [HR.out]
           rw [e]; exact hown2
         obtain ⟨g3, c3, rfl⟩ := own_form1 hown2
         have hb2 : Below w.heap.size w w2 := (hbw1.alloc hsz1 _).grown hgrow2 (by simp; omega) (fun g hg => (HO1.out.lt g hg).1)
         clear hown2 hgrow2
         have HO3 := Lib.hid hown3
         clear hown3
         go_wp2_with fail
         exact ⟨⟨k + 1, some ⟨g3, 0, none⟩, c3, by go_num, rfl, by omega, HO3, all_snoc _ _ _ _ HA.out HX.out (by rw [HR.out]), hb2⟩, by simp [intOf]; omega⟩
     · have hks : k = xs.length := by omega
       subst hks
       have hall : xs.all (fun x => (speltP x).2) = true := by have := HA.out; rwa [List.take_of_length_le (Nat.le_refl _)] at this
       obtain ⟨J, hJ⟩ : ∃ J, joinP (xs.map sp1) = J := ⟨_, rfl⟩
       have hJl : J.length ≤ 300 * 901 := by
         rw [← hJ]
         have h := joinP_len 900 (xs.map sp1) (fun l hl => by obtain ⟨x, _, rfl⟩ := List.mem_map.1 hl; exact speltP_len x)
         rw [List.length_map] at h
         exact Nat.le_trans h (Nat.mul_le_mul_right _ (by omega))
       have hqv : q = if 900 < J.length then ([], 4) else (J, 0) := by
         rw [← HQ.out, spellP, if_neg h3, if_neg (by rw [hall]; simp), ← hJ]; rfl
       have hC : Calls Tryz.prog 57 #[.slice A2 xs.length c2, .string ⟨#[32]⟩] wr fun e w' => e = .returned (.string (bsOf J)) ∧ Below wr.heap.size wr w' := by
         by_cases h0 : xs.length = 0
         · have hn : xs = [] := List.eq_nil_of_length_eq_zero h0
           subst hn
           refine (Tryz.strings_Join_none A2 c2 ⟨#[32]⟩ wr).mono ?_
           rintro e w' ⟨rfl, rfl⟩
           rw [← hJ]
           exact ⟨rfl, Below.refl _ _⟩
         · rcases HO.out.2 with ⟨_, h⟩ | ⟨g, cap, cur, hv, hg1, hg2, hg3, hg4, hg5, hg6⟩
           · exact absurd h h0
           · injection hv with e1 e2 e3
             subst e1 e3
             have hcl := HO.out.cells (g := g) rfl
             have hln : ((xs.map sp1).map bsOf).length = xs.length := by simp
             have hjj : (Lib.join (((xs.map sp1).map bsOf).map (·.data.toList)) (⟨#[32]⟩ : ByteArray).data.toList) = J := by
               rw [← hJ, List.map_map]
               have : ((fun x : ByteArray => x.data.toList) ∘ bsOf) = id := by funext l; rfl
               rw [this, List.map_id]; rfl
             have h := Tryz.strings_Join g 0 c2 ((xs.map sp1).map bsOf) ⟨#[32]⟩ wr (fun j x hx => by
               have := hcl j (.string x) (by
                 unfold lineC
                 rw [List.take_of_length_le (Nat.le_refl _), List.getElem?_map, List.getElem?_map]
                 rw [List.getElem?_map, List.getElem?_map] at hx
                 cases hxj : xs[j]? with
                 | none => rw [hxj] at hx; cases hx
                 | some y => rw [hxj] at hx; simp only [Option.map_some, Option.some.injEq] at hx ⊢; rw [← hx]; rfl)
               rw [add_none] at this
               exact this) (Array.getElem?_eq_some_iff.1 hg2).1 (by rw [hln]; omega) (by rw [hln]; exact hg3) (by rw [hjj]; omega)
             rw [hjj, hln] at h
             exact h
       have HC := Lib.hid hC
       have HQV := Lib.hid hqv
       have hJz : (bsOf J).size ≤ 300 * 901 := by rw [bsOf_size]; exact hJl
       have HJ2 : Hid ((bsOf J).size = J.length) := bsOf_size J
       clear hC hqv hJ hall HO
       by_cases h9 : 900 < (bsOf J).size
       · go_wp2_with fail
         refine (HC.out).mono ?_
         rintro e w' ⟨rfl, hb9⟩
         go_wp2_with fail
         go_ret2
         rw [HQV.out, if_pos (by rw [← HJ2.out]; exact h9)]
         exact ⟨rfl, hb.trans (hb9.mono hb.size)⟩
       · go_wp2_with fail
         refine (HC.out).mono ?_
         rintro e w' ⟨rfl, hb9⟩
         go_wp2_with fail
         go_ret2
         rw [HQV.out, if_neg (by rw [← HJ2.out]; exact h9)]
         exact ⟨rfl, hb.trans (hb9.mono hb.size)⟩
end Go.Proofs.YtbggbcnfkcadjaaGreatDoor
namespace Go.Proofs.YtbggbcnfkcadjaaGreatDoor
set_option maxRecDepth 100000
open Go.RowKit Go.Sort
def parseP (ts : List Tk) : List Nd × Nat × Int :=
 if 300 < ts.length then ([], 0, 4)
 else match ts.findIdx? (fun t => !(speltP t).2) with
 | some i => ([], i, 1)
 | none => match pa (16 * ts.length + 12) .whole ts with
   | .ok e [] => if 200 < e.length then ([], 0, 4) else (e, 0, 0)
   | .ok _ (t :: r) => ([], ts.length - (t :: r).length, 1)
   | .bad k r => ([], ts.length - r.length, k)
def PBack (w : World) (r : Ending) (w' : World) (q : List Nd × Nat × Int) : Prop :=
 ∃ A c, r = .returned (.tuple #[.slice A q.1.length c, .int .i64 q.2.1, errV q.2.2]) ∧ q.1.length ≤ c ∧ c ≤ 9223372036854775807 ∧ NdSl w' w'.heap.size A q.1 ∧ RowKit.Below w.heap.size w w'
theorem PBack.none {w w' : World} {i : Nat} {k : Int} (h : RowKit.Below w.heap.size w w') : PBack w (.returned (.tuple #[.slice none 0 0, .int .i64 i, errV k])) w' ([], i, k) := ⟨Option.none, 0, rfl, Nat.le_refl _, by omega, NdSl.nil _ _ _, h⟩
theorem spell_one (t : Tk) : (spellP [t]).2 = if (speltP t).2 = true then 0 else 1 := by
 unfold spellP
 rw [if_neg (by simp)]
 have hl := speltP_len t
 cases h : (speltP t).2 with
 | false => rw [if_pos (by simp [h]), if_neg (by simp)]
 | true =>
   rw [if_neg (by simp [h]), if_pos rfl, if_neg (by
     rw [List.map_cons, List.map_nil, joinP_one]; omega)]
theorem cut_tok (b o n c k : Nat) (hk : k < n) (hn : n ≤ c) (W : World) : (Instr.slice 23 (.slice (some ⟨b, o, none⟩) n c) (some (.int .i64 (k : Int))) (some (.int .i64 ((k : Int) + 1))) none).run Tryz.prog W = .ok (.slice (some ⟨b, o + k * 3, none⟩) 1 (c - k)) W := by
 have h1 : k + 1 ≤ c := by omega
 have h2 : k < c := by omega
 have h3 : k + 1 - k = 1 := by omega
 go_simp
 rw [if_pos ⟨by omega, by omega⟩, if_neg (by omega)]
theorem tkSl_one {w : World} {B b o : Nat} {xs : List Tk} (h : TkSl w B (some ⟨b, o, none⟩) xs) {k : Nat} {t : Tk} (ht : xs[k]? = some t) : TkSl w B (some ⟨b, o + k * 3, none⟩) [t] := fun _ => by
 obtain ⟨b', o', e, hb, hc⟩ := h.at_ (List.getElem?_eq_some_iff.1 ht).1
 injection e with e; injection e with e1 e2; subst e1 e2
 refine ⟨b, o + k * 3, rfl, hb, fun i x hx => ?_⟩
 obtain rfl : i = 0 := by have := (List.getElem?_eq_some_iff.1 hx).1; simp at this; exact this
 simp at hx; subst hx
 simpa using hc k t ht
structure R3 (w W : World) (a b c : Value) : Prop where
 ex : Blk W w.heap.size 22 #[a]
 at_ : Blk W (w.heap.size + 1) 3 #[b]
 er : Blk W (w.heap.size + 1 + 1) 25 #[c]
 on : RowKit.Below w.heap.size w W
theorem R3.sz {w W : World} {a b c : Value} (h : R3 w W a b c) : w.heap.size + 3 ≤ W.heap.size := h.er.lt
theorem R3.below {w W W' : World} {a b c : Value} (h : R3 w W a b c) (hb : RowKit.Below W.heap.size W W') : R3 w W' a b c := by
 have := h.sz
 exact ⟨h.ex.below hb (by omega), h.at_.below hb (by omega), h.er.below hb (by omega), h.on.trans (hb.mono (by omega))⟩
theorem R3.only {w W W' : World} {a b c : Value} {pb : Nat} (h : R3 w W a b c) (ho : Only W.heap.size pb W W') (hp : w.heap.size + 3 ≤ pb) : R3 w W' a b c := by
 have := h.sz
 exact ⟨h.ex.only ho (by omega) (by omega), h.at_.only ho (by omega) (by omega), h.er.only ho (by omega) (by omega), h.on.trans (ho.below (by omega) (by omega))⟩
theorem R3.set0 {w W : World} {a b c : Value} (h : R3 w W a b c) (v : Value) : R3 w (W.setCell ⟨w.heap.size, 0, none⟩ v) v b c :=
 ⟨h.ex.set 0 v, h.at_.far (by simp) v, h.er.far (by simp; omega) v, h.on.setCell (Nat.le_refl _) _⟩
theorem R3.set1 {w W : World} {a b c : Value} (h : R3 w W a b c) (v : Value) : R3 w (W.setCell ⟨w.heap.size + 1, 0, none⟩ v) a v c :=
 ⟨h.ex.far (by simp) v, h.at_.set 0 v, h.er.far (by simp) v, h.on.setCell (p := ⟨w.heap.size + 1, 0, none⟩) (Nat.le_succ _) _⟩
theorem R3.set2 {w W : World} {a b c : Value} (h : R3 w W a b c) (v : Value) : R3 w (W.setCell ⟨w.heap.size + 1 + 1, 0, none⟩ v) a b v :=
 ⟨h.ex.far (by simp; omega) v, h.at_.far (by simp) v, h.er.set 0 v, h.on.setCell (p := ⟨w.heap.size + 1 + 1, 0, none⟩) (by simp; omega) _⟩
theorem R3.set {w W : World} {a b c : Value} (h : R3 w W a b c) (x y z : Value) : R3 w (((W.setCell ⟨w.heap.size, 0, none⟩ x).setCell ⟨w.heap.size + 1, 0, none⟩ y).setCell ⟨w.heap.size + 1 + 1, 0, none⟩ z) x y z := ((h.set0 x).set1 y).set2 z
theorem R3.new (w : World) : R3 w (((w.alloc (.cells #[.slice none 0 0] 22)).alloc (.cells #[.int .i64 0] 3)).alloc (.cells #[.nilIface] 25)) (.slice none 0 0) (.int .i64 0) .nilIface := by
 have b0 : Blk (((w.alloc (.cells #[.slice none 0 0] 22)).alloc (.cells #[.int .i64 0] 3)).alloc (.cells #[.nilIface] 25)) w.heap.size 22 #[.slice none 0 0] := ((Blk.new w _ _).alloc _).alloc _
 have b1 := (Blk.new (w.alloc (.cells #[.slice none 0 0] 22)) 3 #[.int .i64 0]).alloc (.cells #[.nilIface] 25)
 have b2 := Blk.new ((w.alloc (.cells #[.slice none 0 0] 22)).alloc (.cells #[.int .i64 0] 3)) 25 #[.nilIface]
 simp only [World.size_alloc] at b1 b2
 exact ⟨b0, b1, b2, by (repeat (first | assumption | exact Below.refl _ _ | apply Below.drew | apply below_drewN | (refine Below.alloc ?_ (by first | exact Nat.le_refl _ | omega | (simp; done) | (simp; omega)) _)))⟩
theorem Exm.cellset {B : Nat} {W : World} {m : NsM} (h : Exm B W m) {g : Nat} (hg : g < B) (v : Value) : Exm B (W.setCell ⟨g, 0, none⟩ v) m :=
 h.only ((Only.refl W.heap.size g W).setCell (p := ⟨g, 0, none⟩) (.inl rfl) v) (Nat.le_refl _) hg
theorem Exm.set3 {B : Nat} {w W : World} {m : NsM} (h : Exm B W m) (hg : w.heap.size + 3 ≤ B) (x y z : Value) : Exm B (((W.setCell ⟨w.heap.size, 0, none⟩ x).setCell ⟨w.heap.size + 1, 0, none⟩ y).setCell ⟨w.heap.size + 1 + 1, 0, none⟩ z) m :=
 ((h.cellset (by omega) x).cellset (by omega) y).cellset (by omega) z
set_option maxHeartbeats 1600000 in
theorem parse_big (ts : List Tk) (A : Option Addr) (c : Nat) (w : World) (h : 300 < ts.length) (hm : ts.length ≤ 9223372036854775807) :
   Calls Tryz.prog 16 #[.slice A ts.length c] w fun r w' => PBack w r w' (parseP ts) := by
 have hv : parseP ts = ([], 0, 4) := by unfold parseP; rw [if_pos h]
 rw [hv]
 clear hv
 have hmf : ∀ (fn : Fn) (first cap : Array Value) (w : World), (Instr.makeFunc fn first cap).run Tryz.prog w = .ok (.func fn first cap) w := fun _ _ _ _ => rfl
 go_enter_defers Tryz.func16, Tryz.ntmps16
 go_wp2
 simp [bodyPostD, Leaves, results, Tryz.results16, go_sem]
 exact PBack.none (k := 4) (by (repeat (first | assumption | exact Below.refl _ _ | apply Below.drew | apply below_drewN | (refine Below.alloc ?_ (by first | exact Nat.le_refl _ | omega | (simp; done) | (simp; omega)) _))))
set_option maxHeartbeats 12800000 in
theorem parse_go (ts : List Tk) (A : Option Addr) (c : Nat) (w : World) (h : ¬ 300 < ts.length) (hc : ts.length ≤ c) (hcm : c ≤ 9223372036854775807) (hsl : TkSl w w.heap.size A ts) (hz : ∀ x ∈ ts, x.s.size ≤ 140737488351232) (hgl : GlC w) (hng : 9 ≤ w.heap.size) :
   Calls Tryz.prog 16 #[.slice A ts.length c] w fun r w' => PBack w r w' (parseP ts) := by
 have hmf : ∀ (fn : Fn) (first cap : Array Value) (w : World), (Instr.makeFunc fn first cap).run Tryz.prog w = .ok (.func fn first cap) w := fun _ _ _ _ => rfl
 obtain ⟨q, hq⟩ : ∃ q, parseP ts = q := ⟨_, rfl⟩
 rw [hq]
 unfold parseP at hq
 rw [if_neg h] at hq
 have HQ := Lib.hid hq
 have HS := Lib.hid hsl
 have HZ := Lib.hid hz
 have HGL := Lib.hid hgl
 have hl300 : ts.length ≤ 300 := by omega
 have h300 : ¬ (300 : Int) < (ts.length : Int) := by omega
 have HR0 := Lib.hid (R3.new w)
 clear hq hsl hz hgl h
 go_enter_defers Tryz.func16, Tryz.ntmps16
 go_wp2_with fail
 go_loopw [15] (fun kk wr => ∃ k : Nat, kk = .int .i64 k ∧ k ≤ ts.length ∧ Hid (∀ t ∈ ts.take k, (speltP t).2 = true) ∧ Hid (R3 w wr (.slice none 0 0) (.int .i64 0) .nilIface)) (fun kk _ => ts.length - (intOf kk).toNat)
 case atStart => exact ⟨0, rfl, Nat.zero_le _, (fun t ht => by simp at ht), HR0.out⟩
 case round =>
   obtain ⟨k, rfl, hk, HP, HR⟩ := hrel
   have hsz := HR.out.sz
   by_cases hlt : k < ts.length
   · obtain ⟨t, ht⟩ : ∃ t, ts[k]? = some t := ⟨_, List.getElem?_eq_getElem hlt⟩
     obtain ⟨b, o, rfl, hb, -⟩ := tkSl_at HS.out ht
     have hcut := cut_tok b o ts.length c k hlt hc
     have HT := Lib.hid ht
     have hts : TkSl wr wr.heap.size (some ⟨b, o + k * 3, none⟩) [t] := (tkSl_one (HS.out.below HR.out.on) ht).more (by omega)
     have HSP := Lib.hid (word_Spell [t] (some ⟨b, o + k * 3, none⟩) (c - k) wr hts (by simp) (fun x hx => by rw [List.mem_singleton] at hx; subst hx; exact HZ.out x (List.mem_of_getElem? ht)))
     have i64k : IntKind.wrap .i64 ((k : Int) + 1) = (k : Int) + 1 := IntWalk.i64_in _ (by omega)
     obtain ⟨u, hu⟩ : ∃ u, spellP [t] = u := ⟨_, rfl⟩
     rw [hu] at HSP
     have h2 := spell_one t
     rw [hu] at h2
     obtain ⟨u1, u2⟩ := u
     simp only at h2
     have HU := Lib.hid h2
     clear ht hts hu h2
     by_cases hs : (speltP t).2 = true
     · have hu2 : u2 = 0 := by rw [HU.out, if_pos hs]
       subst hu2
       have HP2 : Hid (∀ t ∈ ts.take (k + 1), (speltP t).2 = true) := fun x hx => by
         rw [List.take_add_one, HT.out] at hx
         rcases List.mem_append.1 hx with hx | hx
         · exact HP.out x hx
         · simp at hx; subst hx; exact hs
       clear hs HU
       go_wp2_with fail
       refine HSP.out.mono ?_
       rintro r w1 ⟨rfl, hb1⟩
       have HR1 := Lib.hid (HR.out.below hb1)
       clear hb1
       go_wp2_with fail
       exact ⟨⟨k + 1, by go_num, by omega, HP2, HR1⟩, by simp [intOf]; omega⟩
     · have hu2 : u2 = 1 := by rw [HU.out, if_neg hs]
       subst hu2
       have hfi : ts.findIdx? (fun t => !(speltP t).2) = some k := by
         rw [List.findIdx?_eq_some_iff_getElem]
         refine ⟨hlt, ?_, fun j hj => ?_⟩
         · have := HT.out
           rw [List.getElem?_eq_getElem hlt] at this
           injection this with this
           rw [this]; simpa using hs
         · have := HP.out ts[j] (by
             rw [List.mem_take_iff_getElem]
             exact ⟨j, by omega, rfl⟩)
           simp [this]
       have hqq : q = ([], k, 1) := by rw [← HQ.out, hfi]
       have HQQ := Lib.hid hqq
       clear hs HU hfi hqq
       go_wp2_with fail
       refine HSP.out.mono ?_
       rintro r w1 ⟨rfl, hb1⟩
       have HR1 := Lib.hid (HR.out.below hb1)
       have l1 := HR1.out.sz
       have ce := HR1.out.ex.cell 0
       have ca := HR1.out.at_.cell 0
       have cr := HR1.out.er.cell 0
       have fe := HR1.out.ex.frozen 0
       have fa := HR1.out.at_.frozen 0
       have fr := HR1.out.er.frozen 0
       clear hb1
       go_wp2_with fail
       have HR2 := Lib.hid (HR1.out.set (.slice none 0 0) (.int .i64 k) (.iface 33 (.int .i64 1)))
       generalize ((w1.setCell ⟨w.heap.size, 0, none⟩ (.slice none 0 0)).setCell ⟨w.heap.size + 1, 0, none⟩ (.int .i64 k)).setCell ⟨w.heap.size + 1 + 1, 0, none⟩ (.iface 33 (.int .i64 1)) = w2 at HR2 ⊢
       have de := HR2.out.ex.cell 0
       have da := HR2.out.at_.cell 0
       have dr := HR2.out.er.cell 0
       simp only [List.getElem?_toArray, List.getElem?_cons_zero] at de da dr
       simp [bodyPostD, Leaves, results, Tryz.results16, go_sem, de, da, dr]
       rw [HQQ.out]
       exact PBack.none (i := k) (k := 1) HR2.out.on
   · have hall : ts.findIdx? (fun t => !(speltP t).2) = none := by
       rw [List.findIdx?_eq_none_iff]
       intro x hx
       have := HP.out x (by rw [List.take_of_length_le (by omega)]; exact hx)
       simp [this]
     have htk : ∀ t ∈ ts, TkS t := fun x hx => tkS_of (HP.out x (by rw [List.take_of_length_le (by omega)]; exact hx))
     have hqq := HQ.out
     rw [hall] at hqq
     have hb0 : RowKit.Below wr.heap.size wr (wr.alloc (.cells #[.slice A ts.length c, .int .i64 0] 71)) := by (repeat (first | assumption | exact Below.refl _ _ | apply Below.drew | apply below_drewN | (refine Below.alloc ?_ (by first | exact Nat.le_refl _ | omega | (simp; done) | (simp; omega)) _)))
     have hx : PxIn ⟨wr.heap.size, A, c, ts⟩ (wr.alloc (.cells #[.slice A ts.length c, .int .i64 0] 71)) :=
       ⟨((HS.out.below HR.out.on).more (show w.heap.size ≤ wr.heap.size by omega)).below hb0, hl300, hc, hcm, htk, (HGL.out.later HR.out.on hng).later hb0 (by omega), by show 9 ≤ wr.heap.size; omega⟩
     have hB : PxB ⟨wr.heap.size, A, c, ts⟩ (wr.alloc (.cells #[.slice A ts.length c, .int .i64 0] 71)) 0 := Blk.new wr _ _
     have hnb : ∀ r, pa (16 * ts.length + 12) .whole (ts.drop 0) ≠ .bad 0 r := pa_en (16 * ts.length + 12) ts.length .whole (by have := rank_le .whole; omega) ts (Nat.le_refl _)
     have hcall := (all_does ⟨wr.heap.size, A, c, ts⟩ (16 * ts.length + 12)).wh _ 0 hx hB (Nat.zero_le _) hnb
     have HC := Lib.hid hcall
     have HR1 := Lib.hid (HR.out.below hb0)
     have HB := Lib.hid hB
     have HNB := Lib.hid hnb
     have hpb : wr.heap.size < (wr.alloc (.cells #[.slice A ts.length c, .int .i64 0] 71)).heap.size := by simp
     have HQ1 : Hid ((match pa (16 * ts.length + 12) .whole (ts.drop 0) with
       | .ok e [] => if 200 < e.length then ([], 0, 4) else (e, 0, 0)
       | .ok _ (t :: r) => ([], ts.length - (t :: r).length, 1)
       | .bad k r => ([], ts.length - r.length, k)) = q) := hqq
     clear hx hB hnb hcall hall htk hqq hb0 HP HR
     go_wp2_with fail
     generalize wr.alloc (.cells #[.slice A ts.length c, .int .i64 0] 71) = w1 at HC HR1 HB hpb ⊢
     generalize hpq : pa (16 * ts.length + 12) .whole (ts.drop 0) = pq at HC HNB HQ1
     clear hpq
     refine HC.out.mono ?_
     rintro r w2 ⟨ho2, hm⟩
     have ho2' : Only w1.heap.size wr.heap.size w1 w2 := ho2
     have HR2 := Lib.hid (HR1.out.only ho2' (by omega))
     cases pq with
     | bad k rest =>
       obtain ⟨j, rfl, hrest, hj⟩ := hm
       have hj : j ≤ ts.length := hj
       have hqq : q = ([], j, k) := by
         rw [← HQ1.out]
         show ([], ts.length - rest.length, k) = _
         rw [hrest]
         show ([], ts.length - (ts.drop j).length, k) = _
         rw [List.length_drop, show ts.length - (ts.length - j) = j from by omega]
       have HK0 : ¬ k = 0 := fun e => HNB.out rest (by rw [e])
       clear ho2 hrest hj HC
       go_wp2_with fail
       refine leaves_cons (f := 29) (args := #[.pointer (some ⟨w.heap.size, 0, none⟩), .pointer (some ⟨w.heap.size + 1, 0, none⟩), .pointer (some ⟨w.heap.size + 1 + 1, 0, none⟩)]) (by simp) (by simp [go_sem]) ?_
       refine (parse_catch w.heap.size _ _ _ k j [] _ HR2.out.ex HR2.out.at_ HR2.out.er).mono ?_
       rintro e' u' w'' ⟨rfl, rfl, hc0, hc1, hc2, hbw⟩
       simp [Leaves, settle, results, Tryz.results16, go_sem, hc0, hc1, hc2]
       rw [hqq]
       have := PBack.none (w := w) (i := j) (k := k) (HR2.out.on.trans hbw)
       rwa [errV_pos HK0] at this
     | ok e rest =>
       obtain ⟨A2, c2, j, rfl, hE, hrest, hj, hB2⟩ := hm
       have hj : j ≤ ts.length := hj
       have hrest : rest = ts.drop j := hrest
       have HE2 := Lib.hid hE
       have HB2 := Lib.hid hB2
       have ce := HR2.out.ex.cell 0
       have fe := HR2.out.ex.frozen 0
       have l2 := HR2.out.sz
       have kp : w2.cell? ⟨wr.heap.size, 1, none⟩ = some (.int .i64 j) := HB2.out.cell 1
       have lp : wr.heap.size < w2.heap.size := Blk.lt hB2
       have hne : ¬ wr.heap.size = w.heap.size := by omega
       have hne' : ¬ w.heap.size = wr.heap.size := by omega
       have HR3 := Lib.hid (HR2.out.set0 (.slice A2 e.length c2))
       have HB3 : Hid (PxB ⟨wr.heap.size, A, c, ts⟩ (w2.setCell ⟨w.heap.size, 0, none⟩ (.slice A2 e.length c2)) j) := Blk.far HB2.out (by show wr.heap.size ≠ w.heap.size; omega) _
       have hz12 : w.heap.size + 3 ≤ w1.heap.size := HR1.out.sz
       have HE3 := Lib.hid (HE2.out.cellset (g := w.heap.size) (by omega) (.slice A2 e.length c2))
       clear ho2 ho2' hE hB2 HC
       by_cases hjn : j < ts.length
       · have tj : decide ((j : Int) < (ts.length : Int)) = true := by simp; omega
         have hqq : q = ([], j, 1) := by
           rw [← HQ1.out, hrest]
           obtain ⟨t, ht⟩ : ∃ t, ts[j]? = some t := ⟨_, List.getElem?_eq_getElem hjn⟩
           rw [drop_cons ht]
           show ([], ts.length - (t :: ts.drop (j + 1)).length, (1 : Int)) = _
           rw [← drop_cons ht, List.length_drop, show ts.length - (ts.length - j) = j from by omega]
         have HF := Lib.hid (ph_fail ⟨wr.heap.size, A, c, ts⟩ j _ HB3.out)
         clear hrest
         go_wp2_with fail
         refine HF.out.mono ?_
         rintro r w4 ⟨rfl, rfl⟩
         go_wp2_with fail
         refine leaves_cons (f := 29) (args := #[.pointer (some ⟨w.heap.size, 0, none⟩), .pointer (some ⟨w.heap.size + 1, 0, none⟩), .pointer (some ⟨w.heap.size + 1 + 1, 0, none⟩)]) (by simp) (by simp [go_sem]) ?_
         refine (parse_catch w.heap.size _ _ _ 1 j [] _ HR3.out.ex HR3.out.at_ HR3.out.er).mono ?_
         rintro e' u' w'' ⟨rfl, rfl, hc0, hc1, hc2, hbw⟩
         simp [Leaves, settle, results, Tryz.results16, go_sem, hc0, hc1, hc2]
         rw [hqq]
         exact PBack.none (w := w) (i := j) (k := 1) (HR3.out.on.trans hbw)
       · have tj : decide ((j : Int) < (ts.length : Int)) = false := by simp; omega
         have hrn : rest = [] := by rw [hrest]; exact List.drop_eq_nil_of_le (by omega)
         have hqq : (if 200 < e.length then ([], 0, 4) else (e, 0, 0)) = q := by rw [← HQ1.out, hrn]
         have ca := HR2.out.at_.cell 0
         have fa := HR2.out.at_.frozen 0
         have cr := HR2.out.er.cell 0
         have fr := HR2.out.er.frozen 0
         clear hrest hrn
         by_cases h200 : 200 < e.length
         · have t200 : (200 : Int) < (e.length : Int) := by omega
           rw [if_pos h200] at hqq
           have HQQ := Lib.hid hqq
           clear hqq h200
           go_wp2_with fail
           have HR4 := Lib.hid (HR3.out.set (.slice none 0 0) (.int .i64 0) (.iface 33 (.int .i64 4)))
           generalize (((w2.setCell ⟨w.heap.size, 0, none⟩ (.slice A2 e.length c2)).setCell ⟨w.heap.size, 0, none⟩ (.slice none 0 0)).setCell ⟨w.heap.size + 1, 0, none⟩ (.int .i64 0)).setCell ⟨w.heap.size + 1 + 1, 0, none⟩ (.iface 33 (.int .i64 4)) = w4 at HR4 ⊢
           have de := HR4.out.ex.cell 0
           have da := HR4.out.at_.cell 0
           have dr := HR4.out.er.cell 0
           simp only [List.getElem?_toArray, List.getElem?_cons_zero] at de da dr
           refine leaves_cons (f := 29) (args := #[.pointer (some ⟨w.heap.size, 0, none⟩), .pointer (some ⟨w.heap.size + 1, 0, none⟩), .pointer (some ⟨w.heap.size + 1 + 1, 0, none⟩)]) (by simp) (by simp [go_sem]) ?_
           refine (parse_idle ⟨w.heap.size, 0, none⟩ ⟨w.heap.size + 1, 0, none⟩ ⟨w.heap.size + 1 + 1, 0, none⟩ _).mono ?_
           rintro e' u' w'' ⟨rfl, rfl, rfl⟩
           simp [Leaves, settle, results, Tryz.results16, go_sem, de, da, dr]
           rw [← HQQ.out]
           exact PBack.none (i := 0) (k := 4) HR4.out.on
         · have t200 : ¬ (200 : Int) < (e.length : Int) := by omega
           rw [if_neg h200] at hqq
           have HQQ := Lib.hid hqq
           clear hqq h200
           go_wp2_with fail
           have HR4 := Lib.hid (HR3.out.set (.slice A2 e.length c2) (.int .i64 0) .nilIface)
           have HE4 := Lib.hid (HE3.out.set3 (w := w) hz12 (.slice A2 e.length c2) (.int .i64 0) .nilIface)
           generalize (((w2.setCell ⟨w.heap.size, 0, none⟩ (.slice A2 e.length c2)).setCell ⟨w.heap.size, 0, none⟩ (.slice A2 e.length c2)).setCell ⟨w.heap.size + 1, 0, none⟩ (.int .i64 0)).setCell ⟨w.heap.size + 1 + 1, 0, none⟩ .nilIface = w4 at HR4 HE4 ⊢
           have de := HR4.out.ex.cell 0
           have da := HR4.out.at_.cell 0
           have dr := HR4.out.er.cell 0
           simp only [List.getElem?_toArray, List.getElem?_cons_zero] at de da dr
           refine leaves_cons (f := 29) (args := #[.pointer (some ⟨w.heap.size, 0, none⟩), .pointer (some ⟨w.heap.size + 1, 0, none⟩), .pointer (some ⟨w.heap.size + 1 + 1, 0, none⟩)]) (by simp) (by simp [go_sem]) ?_
           refine (parse_idle ⟨w.heap.size, 0, none⟩ ⟨w.heap.size + 1, 0, none⟩ ⟨w.heap.size + 1 + 1, 0, none⟩ _).mono ?_
           rintro e' u' w'' ⟨rfl, rfl, rfl⟩
           simp [Leaves, settle, results, Tryz.results16, go_sem, de, da, dr]
           rw [← HQQ.out]
           exact ⟨A2, c2, rfl, HE4.out.good.le, HE4.out.good.max, HE4.out.good.sl, HR4.out.on⟩
theorem phrase_Parse (ts : List Tk) (A : Option Addr) (c : Nat) (w : World) (hc : ts.length ≤ c) (hcm : c ≤ 9223372036854775807) (hsl : TkSl w w.heap.size A ts) (hz : ∀ x ∈ ts, x.s.size ≤ 140737488351232) (hgl : GlC w) (hng : 9 ≤ w.heap.size) :
   Calls Tryz.prog 16 #[.slice A ts.length c] w fun r w' => PBack w r w' (parseP ts) := by
 by_cases h : 300 < ts.length
 · exact parse_big ts A c w h (by omega)
 · exact parse_go ts A c w h hc hcm hsl hz hgl hng
end Go.Proofs.YtbggbcnfkcadjaaGreatDoor
