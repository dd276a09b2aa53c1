/-
  THE WALKS: slice.first, slice.holds.
  A ROW OF CONDITIONS in a block of its own, while their expressions are copied (without package link). POLICIES IN MEMORY that lie in none of some blocks.
  THE WALKS: slice.Pick, where something is wrong (printed by mkslb.py).
  PLAIN LAWS for SliceSame, SliceAgain: what is left out does not matter.
-/
import Derived.Test.YtpheiojmcafolaaGreatDoorSx16
import Derived.Test.YtpheiojmcafolaaGreatDoorSx06
import Derived.Test.YtpheiojmcafolaaGreatDoorSx08
import Derived.Test.YtpheiojmcafolaaGreatDoorSx12
import Derived.Test.YtpheiojmcafolaaGreatDoorSx11
namespace Go.Proofs.YtpheiojmcafolaaGreatDoor
set_option maxRecDepth 100000
open Go.RowKit Go.Sort
set_option maxHeartbeats 3200000 in
theorem slice_first (k1 k2 k3 : Int) (b c : Nat) (w : World) (h1 : w.cell? ⟨b, 0, none⟩ = some (errV k1)) (h2 : w.cell? ⟨b, 1, none⟩ = some (errV k2)) (h3 : w.cell? ⟨b, 2, none⟩ = some (errV k3)) :
   Calls Tryz.prog 74 #[.slice (some ⟨b, 0, none⟩) 3 c] w fun r w' => r = .returned (errV (if k1 ≠ 0 then k1 else if k2 ≠ 0 then k2 else k3)) ∧ w' = w := by
 obtain ⟨k, hk⟩ : ∃ k, k = if k1 ≠ 0 then k1 else if k2 ≠ 0 then k2 else k3 := ⟨_, rfl⟩
 rw [← hk]
 have HK := Lib.hid hk
 clear hk
 go_enter Tryz.func74, Tryz.ntmps74
 go_wp2_with fail
 refine wp_loop_rounds 4 ?_
 by_cases g1 : k1 = 0
 case neg =>
   have t1 : (k1 != 0) = true := by simpa using g1
   obtain rfl : k = k1 := by rw [HK.out, if_pos g1]
   clear HK g1
   rw [rounds_succ]
   go_wp2_with fail
   go_ret
   exact ⟨rfl, rfl⟩
 have t1 : (k1 != 0) = false := by simpa using g1
 have HG1 := Lib.hid g1
 clear g1
 rw [rounds_succ]
 go_wp2_with fail
 by_cases g2 : k2 = 0
 case neg =>
   have t2 : (k2 != 0) = true := by simpa using g2
   obtain rfl : k = k2 := by rw [HK.out, if_neg (by simp [HG1.out]), if_pos g2]
   clear HK g2
   rw [rounds_succ]
   go_wp2_with fail
   go_ret
   exact ⟨rfl, rfl⟩
 have t2 : (k2 != 0) = false := by simpa using g2
 obtain rfl : k = k3 := by rw [HK.out, if_neg (by simp [HG1.out]), if_neg (by simp [g2])]
 clear HK g2 HG1
 rw [rounds_succ]
 go_wp2_with fail
 by_cases g3 : k = 0
 case neg =>
   have t3 : (k != 0) = true := by simpa using g3
   clear g3
   rw [rounds_succ]
   go_wp2_with fail
   go_ret
   exact ⟨rfl, rfl⟩
 subst g3
 have t3 : ((0 : Int) != 0) = false := rfl
 rw [rounds_succ]
 go_wp2_with fail
 rw [rounds_succ]
 go_wp2_with fail
 go_ret
 exact ⟨rfl, rfl⟩
set_option maxHeartbeats 6400000 in
theorem holds_below (hs : List Eh) (es : List En) (Ea : Option Addr) (ec : Nat) (s : Sc) (u : Ud) (b0 b1 b2 : Nat) (w : World) (hI : EntsIn w Ea hs es) (hc : hs.length ≤ ec) (h0 : entErr es = 0) (hu : UdOk u) (hv : UdOk s.uid)
   (B0 : Blk w b0 42 #[.slice Ea hs.length ec]) (B1 : Blk w b1 44 #[.int .i64 s.op, .string s.ty, .string s.uid.ty, .string s.uid.id]) (B2 : Blk w b2 34 #[.string u.ty, .string u.id]) :
   Calls Tryz.prog 103 #[.pointer (some ⟨b0, 0, none⟩), .pointer (some ⟨b2, 0, none⟩), .pointer (some ⟨b1, 0, none⟩)] w fun r w' => r = .returned (.bool (inB es u s.uid)) ∧ RowKit.Below w.heap.size w w' := by
 have HI := Lib.hid (ent_In hs es u s.uid Ea ec w hI hc (udSm_ok hu) (udSm_ok hv))
 rw [h0, if_pos rfl, errV_zero] at HI
 generalize inB es u s.uid = B at HI ⊢
 have c0 := B0.cell
 have c1 := B1.cell
 have c2 := B2.cell
 have l0 := B0.lt
 have l1 := B1.lt
 have l2 := B2.lt
 clear hI hu hv h0 B0 B1 B2
 go_enter Tryz.func103, Tryz.ntmps103
 go_wp2_with fail
 refine HI.out.mono ?_
 rintro r w2 ⟨rfl, hb2⟩
 have HB := Lib.hid hb2
 clear hb2 c0 c1 c2 l0 l1 l2
 go_wp2_with fail
 go_ret
 exact ⟨rfl, HB.out⟩
set_option maxHeartbeats 6400000 in
theorem slice_holds (hs : List Eh) (es : List En) (Ea : Option Addr) (ec : Nat) (s : Sc) (u : Ud) (w : World) (hI : EntsIn w Ea hs es) (hc : hs.length ≤ ec) (h0 : entErr es = 0) (hu : UdOk u) (hv : UdOk s.uid) :
   Calls Tryz.prog 75 #[.slice Ea hs.length ec, .agg #[.int .i64 s.op, .string s.ty, .string s.uid.ty, .string s.uid.id], .agg #[.string u.ty, .string u.id]] w fun r w' => r = .returned (.bool (fitsB es s u)) ∧ RowKit.Below w.heap.size w w' := by
 have hmf : ∀ (fn : Fn) (first cap : Array Value) (w : World), (Instr.makeFunc fn first cap).run Tryz.prog w = .ok (.func fn first cap) w := fun _ _ _ _ => rfl
 obtain ⟨q, hq⟩ : ∃ q, fitsB es s u = q := ⟨_, rfl⟩
 rw [hq]
 have HQ := Lib.hid hq
 have heq : ∀ W, (binOp .eql 34 (.agg #[.string u.ty, .string u.id]) (.agg #[.string s.uid.ty, .string s.uid.id])).run Tryz.prog W = .ok (.bool (decide (u = s.uid))) W := fun W => eql_ud u s.uid W
 obtain ⟨w3, hw3⟩ : ∃ w3, ((w.alloc (.cells #[.slice Ea hs.length ec] 42)).alloc (.cells #[.int .i64 s.op, .string s.ty, .string s.uid.ty, .string s.uid.id] 44)).alloc (.cells #[.string u.ty, .string u.id] 34) = w3 := ⟨_, rfl⟩
 have hb0 : RowKit.Below w.heap.size w w3 := by rw [← hw3]; (repeat (first | assumption | exact Below.refl _ _ | apply Below.drew | apply below_drewN | (refine Below.alloc ?_ (by first | exact Nat.le_refl _ | omega | (simp; done) | (simp; omega)) _)))
 have B0 : Blk w3 w.heap.size 42 #[.slice Ea hs.length ec] := by rw [← hw3]; exact ((Blk.new _ _ _).alloc _).alloc _
 have B1 : Blk w3 (w.heap.size + 1) 44 #[.int .i64 s.op, .string s.ty, .string s.uid.ty, .string s.uid.id] := by
   rw [← hw3]
   have := (Blk.new (w.alloc (.cells #[.slice Ea hs.length ec] 42)) 44 #[.int .i64 s.op, .string s.ty, .string s.uid.ty, .string s.uid.id]).alloc (.cells #[.string u.ty, .string u.id] 34)
   rwa [World.size_alloc] at this
 have B2 : Blk w3 (w.heap.size + 1 + 1) 34 #[.string u.ty, .string u.id] := by
   rw [← hw3]
   have := Blk.new ((w.alloc (.cells #[.slice Ea hs.length ec] 42)).alloc (.cells #[.int .i64 s.op, .string s.ty, .string s.uid.ty, .string s.uid.id] 44)) 34 #[.string u.ty, .string u.id]
   rwa [World.size_alloc, World.size_alloc] at this
 have HI := Lib.hid (holds_below hs es Ea ec s u w.heap.size (w.heap.size + 1) (w.heap.size + 1 + 1) w3 (hI.later hb0) hc h0 hu hv B0 B1 B2)
 have HB := Lib.hid hb0
 rw [← hw3] at HI HB
 clear hI hu hv h0 hb0 hq B0 B1 B2 hw3
 by_cases h1 : s.op = 1
 · have t1 : (s.op == 1) = true := by simp [h1]
   have HV : Hid (q = decide (u = s.uid)) := by show _ = _; rw [← HQ.out]; unfold fitsB; rw [if_pos h1]
   rw [HV.out]
   clear h1 HQ HV HI
   go_enter Tryz.func75, Tryz.ntmps75
   go_wp2_with fail
   go_ret
   exact ⟨rfl, HB.out⟩
 have t1 : (s.op == 1) = false := by simp [h1]
 by_cases h2 : s.op = 2
 · have t2 : (s.op == 2) = true := by simp [h2]
   have HV : Hid (q = inB es u s.uid) := by show _ = _; rw [← HQ.out]; unfold fitsB; rw [if_neg h1, if_neg (by omega), if_pos (.inl h2), t2]; simp
   rw [HV.out]
   clear h1 h2 HQ HV heq
   generalize inB es u s.uid = B at HI ⊢
   go_enter Tryz.func75, Tryz.ntmps75
   go_wp2_with fail
   refine HI.out.mono ?_
   rintro r w2 ⟨rfl, hb2⟩
   have H2 := Lib.hid (HB.out.trans (hb2.mono HB.out.size))
   clear hb2
   go_wp2_with fail
   go_ret
   exact ⟨rfl, H2.out⟩
 have t2 : (s.op == 2) = false := by simp [h2]
 by_cases h3 : s.op = 3
 · have t3 : (s.op == 3) = true := by simp [h3]
   have HV : Hid (q = (u.ty.toList == s.ty.toList)) := by show _ = _; rw [← HQ.out]; unfold fitsB; rw [if_neg h1, if_pos h3, ty_eq]
   rw [HV.out]
   clear h1 h2 h3 HQ HV heq HI
   go_enter Tryz.func75, Tryz.ntmps75
   go_wp2_with fail
   go_ret
   exact ⟨rfl, HB.out⟩
 have t3 : (s.op == 3) = false := by simp [h3]
 by_cases h4 : s.op = 4
 · have t4 : (s.op == 4) = true := by simp [h4]
   have HV : Hid (q = ((u.ty.toList == s.ty.toList) && inB es u s.uid)) := by
     show _ = _; rw [← HQ.out]; unfold fitsB; rw [if_neg h1, if_neg h3, if_pos (.inr h4), t2, ty_eq, Bool.and_comm]; simp
   rw [HV.out]
   clear h1 h2 h3 h4 HQ HV heq
   generalize inB es u s.uid = B at HI ⊢
   cases te : (u.ty.toList == s.ty.toList)
   · clear HI
     go_enter Tryz.func75, Tryz.ntmps75
     go_wp2_with fail
     go_ret
     exact ⟨rfl, HB.out⟩
   · go_enter Tryz.func75, Tryz.ntmps75
     go_wp2_with fail
     refine HI.out.mono ?_
     rintro r w2 ⟨rfl, hb2⟩
     have H2 := Lib.hid (HB.out.trans (hb2.mono HB.out.size))
     clear hb2
     go_wp2_with fail
     go_ret
     exact ⟨rfl, H2.out⟩
 have t4 : (s.op == 4) = false := by simp [h4]
 have HV : Hid (q = true) := by show _ = _; rw [← HQ.out]; unfold fitsB; rw [if_neg h1, if_neg h3, if_neg (by omega)]
 rw [HV.out]
 clear h1 h2 h3 h4 HQ HV heq HI
 go_enter Tryz.func75, Tryz.ntmps75
 go_wp2_with fail
 go_ret
 exact ⟨rfl, HB.out⟩
end Go.Proofs.YtpheiojmcafolaaGreatDoor
namespace Go.Proofs.YtpheiojmcafolaaGreatDoor
open Go.RowKit Go.Sort
structure LRow (F : Nat → Prop) (cs : List CdM) (g : Nat) (wr : World) (V : Array Value) (ds : List CdM) : Prop where
 row : CdBlk wr g V ds
 same : ds.map CdM.cd = cs.map CdM.cd
 off : ∀ x ∈ ds, NdOff F wr wr.heap.size x.A x.e
 le : ∀ x ∈ ds, x.e.length ≤ x.c ∧ x.c ≤ 9223372036854775807 ∧ NdOk x.e
theorem LRow.step {F : Nat → Prop} {cs ds : List CdM} {g k : Nat} {wr w5 : World} {V : Array Value} {x : CdM} {A5 : Option Addr} {c5 : Nat} (h : LRow F cs g wr V ds) (hF : F g) (hx : ds[k]? = some x) (hb : Below wr.heap.size wr w5) (ho : NdOff F w5 w5.heap.size A5 x.e)
   (h1 : x.e.length ≤ c5) (h2 : c5 ≤ 9223372036854775807) : LRow F cs g (w5.setCell ⟨g, k * 2 + 1, none⟩ (.slice A5 x.e.length c5)) (V.setIfInBounds (k * 2 + 1) (.slice A5 x.e.length c5)) (ds.set k ⟨x.u, A5, c5, x.e⟩) := by
 have hg := h.row.blk.lt
 have hV1 := h.row.at1 k x hx
 have hVs : k * 2 + 1 < V.size := (Array.getElem?_eq_some_iff.1 hV1).1
 have hk := (List.getElem?_eq_some_iff.1 hx).1
 have hkeep : ∀ p : Addr, p.block < w5.heap.size → ¬ F p.block → (w5.setCell ⟨g, k * 2 + 1, none⟩ (.slice A5 x.e.length c5)).cell? p = w5.cell? p := fun p _ hn => World.cell?_setCell_other w5 ⟨g, k * 2 + 1, none⟩ p _ (by rintro rfl; exact hn hF)
 refine ⟨⟨(h.row.blk.below hb hg).set _ _, fun i y hy => ?_, fun i y hy => ?_⟩, ?_, fun y hy => ?_, fun y hy => ?_⟩
 · rw [Array.getElem?_setIfInBounds, if_neg (by omega)]
   rw [List.getElem?_set] at hy
   split at hy
   · rename_i hik
     subst hik
     injection hy with hy
     subst hy
     exact h.row.at0 k x hx
   · exact h.row.at0 i y hy
 · rw [List.getElem?_set] at hy
   split at hy
   · rename_i hik
     subst hik
     injection hy with hy
     subst hy
     rw [Array.getElem?_setIfInBounds, if_pos rfl, if_pos hVs]
   · rename_i hik
     rw [Array.getElem?_setIfInBounds, if_neg (by omega)]
     exact h.row.at1 i y hy
 · rw [List.map_set, ← h.same]
   apply List.ext_getElem?
   intro i
   rw [List.getElem?_set]
   split
   · rename_i hik
     subst hik
     rw [if_pos (by rw [List.length_map]; exact hk), List.getElem?_map, hx]; rfl
   · rfl
 · rcases List.mem_or_eq_of_mem_set hy with hy | rfl
   · rw [World.size_setCell]
     exact ((h.off y hy).keep (fun p hp _ => hb.cell hp) hb.size).keep hkeep (Nat.le_refl _)
   · rw [World.size_setCell]
     exact ho.keep hkeep (Nat.le_refl _)
 · rcases List.mem_or_eq_of_mem_set hy with hy | rfl
   · exact h.le y hy
   · exact ⟨h1, h2, (h.le x (List.mem_of_getElem? hx)).2.2⟩
theorem LRow.cds {F : Nat → Prop} {cs ds : List CdM} {g : Nat} {wr : World} {V : Array Value} (h : LRow F cs g wr V ds) : CdsAt wr wr.heap.size (some ⟨g, 0, none⟩) ds := by
 refine ⟨fun _ => ⟨g, 0, rfl, h.row.blk.lt, fun i x hx j u hu => ?_⟩, fun x hx => ⟨(h.off x hx).sl, (h.le x hx).1, (h.le x hx).2.1, (h.le x hx).2.2⟩⟩
 have hj : j < 2 := (List.getElem?_eq_some_iff.1 hu).1
 rw [Nat.zero_add, h.row.blk.cell]
 match j, hj, hu with
 | 0, _, hu => injection hu with hu; subst hu; exact h.row.at0 i x hx
 | 1, _, hu => injection hu with hu; subst hu; exact h.row.at1 i x hx
theorem LRow.far {F : Nat → Prop} {cs ds : List CdM} {g : Nat} {wr : World} {V : Array Value} (h : LRow F cs g wr V ds) {p : Addr} (hp : F p.block) (hg : g ≠ p.block) (u : Value) : LRow F cs g (wr.setCell p u) V ds :=
 ⟨⟨h.row.blk.far hg u, h.row.at0, h.row.at1⟩, h.same, fun x hx => by rw [World.size_setCell]; exact (h.off x hx).keep (fun q _ hn => World.cell?_setCell_other wr p q u (by rintro rfl; exact hn hp)) (Nat.le_refl _), h.le⟩
structure CdF (F : Nat → Prop) (w : World) (B : Nat) (A : Option Addr) (cs : List CdM) : Prop where
 row : cs ≠ [] → ∃ b o, A = some ⟨b, o, none⟩ ∧ b < B ∧ ¬ F b ∧ ∀ i x, cs[i]? = some x → AtG CdM.cells w b (o + i * 2) x
 off : ∀ x ∈ cs, NdOff F w B x.A x.e
 le : ∀ x ∈ cs, x.e.length ≤ x.c ∧ x.c ≤ 9223372036854775807 ∧ NdOk x.e
theorem CdF.cds {F : Nat → Prop} {w : World} {B : Nat} {A : Option Addr} {cs : List CdM} (h : CdF F w B A cs) : CdsAt w B A cs :=
 ⟨fun hne => by obtain ⟨b, o, e, h1, _, h3⟩ := h.row hne; exact ⟨b, o, e, h1, h3⟩, fun x hx => ⟨(h.off x hx).sl, (h.le x hx).1, (h.le x hx).2.1, (h.le x hx).2.2⟩⟩
theorem NdOff.mono {F F' : Nat → Prop} {w : World} {B : Nat} {A : Option Addr} {e : List Nd} (h : NdOff F w B A e) (hF : ∀ b, b < B → F' b → F b) : NdOff F' w B A e := fun hne => by
 obtain ⟨b, o, e1, h1, h2, h3⟩ := h hne
 exact ⟨b, o, e1, h1, fun hc => h2 (hF b h1 hc), h3⟩
theorem CdF.mono {F F' : Nat → Prop} {w : World} {B : Nat} {A : Option Addr} {cs : List CdM} (h : CdF F w B A cs) (hF : ∀ b, b < B → F' b → F b) : CdF F' w B A cs :=
 ⟨fun hne => by obtain ⟨b, o, e, h1, h2, h3⟩ := h.row hne; exact ⟨b, o, e, h1, fun hc => h2 (hF b h1 hc), h3⟩, fun x hx => (h.off x hx).mono hF, h.le⟩
theorem CdF.keep {F : Nat → Prop} {w w' : World} {B B' : Nat} {A : Option Addr} {cs : List CdM} (h : CdF F w B A cs) (hk : ∀ p : Addr, p.block < B → ¬ F p.block → w'.cell? p = w.cell? p) (hB : B ≤ B') : CdF F w' B' A cs :=
 ⟨fun hne => by
   obtain ⟨b, o, e, h1, h2, h3⟩ := h.row hne
   exact ⟨b, o, e, by omega, h2, fun i x hx j u hu => (hk _ h1 h2).trans (h3 i x hx j u hu)⟩, fun x hx => (h.off x hx).keep hk hB, h.le⟩
structure PoMF (F : Nat → Prop) (w : World) (B : Nat) (x : PoM) : Prop where
 same : x.p.conds = x.cs.map CdM.cd
 le : x.cs.length ≤ x.c
 max : x.c ≤ 9223372036854775807
 z : PoZ x.p
 off : CdF F w B x.A x.cs
 ni : ∀ y ∈ x.cs, NdI y.e
theorem PoMF.ok {F : Nat → Prop} {w : World} {B : Nat} {x : PoM} (h : PoMF F w B x) : PoMOk w B x := ⟨h.same, h.le, h.max, h.z, h.off.cds, h.ni⟩
theorem PoMF.mono {F F' : Nat → Prop} {w : World} {B : Nat} {x : PoM} (h : PoMF F w B x) (hF : ∀ b, b < B → F' b → F b) : PoMF F' w B x := ⟨h.same, h.le, h.max, h.z, h.off.mono hF, h.ni⟩
theorem PoMF.keep {F : Nat → Prop} {w w' : World} {B B' : Nat} {x : PoM} (h : PoMF F w B x) (hk : ∀ p : Addr, p.block < B → ¬ F p.block → w'.cell? p = w.cell? p) (hB : B ≤ B') : PoMF F w' B' x := ⟨h.same, h.le, h.max, h.z, h.off.keep hk hB, h.ni⟩
def OwnB (v : Value) (b : Nat) : Prop := v.ownBlock = some b
structure PkRow (w5 : World) (ms : List PoM) (v : Value) (w : World) : Prop where
 own : w.ownsRow w5.heap.size 47 15 v ms.length (flatG PoM.cells ms)
 each : ∀ z ∈ ms, PoMF (OwnB v) w w.heap.size z
 below : RowKit.Below w5.heap.size w5 w
theorem PkRow.nil (w5 : World) : PkRow w5 [] (.slice none 0 0) w5 := ⟨World.ownsRow_nil _ _ _ _, fun z hz => by simp at hz, RowKit.Below.refl _ _⟩
theorem PkRow.later {w5 w w' : World} {ms : List PoM} {v : Value} (h : PkRow w5 ms v w) (hb : RowKit.Below w.heap.size w w') : PkRow w5 ms v w' :=
 ⟨own_later h.own hb, fun z hz => (h.each z hz).keep (fun _ hp _ => hb.cell hp) hb.size, h.below.trans (hb.mono h.below.size)⟩
theorem PkRow.more {w5 w w' : World} {ms : List PoM} {v v' : Value} {y : PoM} (h : PkRow w5 ms v w) (hy : PoMF (OwnB v) w w.heap.size y) (ho : w'.ownsRow w5.heap.size 47 15 v' (ms.length + 1) (flatG PoM.cells ms ++ PoM.cells y))
   (hg : w.grownBy w' v.ownBlock) (hl : v'.ownBlock = v.ownBlock ∨ v'.ownBlock = some w.heap.size) : PkRow w5 (ms ++ [y]) v' w' := by
 refine ⟨by rw [List.length_append, flatG_append, flatG_one]; exact ho, fun z hz => ?_, h.below.grown hg h.below.size (fun k hk => (own_lt h.own hk).1)⟩
 have hz' : PoMF (OwnB v) w w.heap.size z := by
   rcases List.mem_append.1 hz with hz | hz
   · exact h.each z hz
   · rw [List.mem_singleton] at hz; subst hz; exact hy
 have h2 : PoMF (OwnB v') w w.heap.size z := hz'.mono fun b hb hc => by
   rcases hl with hl | hl
   · unfold OwnB at hc ⊢; rw [← hl]; exact hc
   · unfold OwnB at hc; rw [hl] at hc; injection hc with hc; omega
 have hk : ∀ p : Addr, p.block < w.heap.size → ¬ OwnB v p.block → w'.cell? p = w.cell? p := fun p hp hn => World.cell?_of_block (hg.block p.block hp (fun e => hn e.symm))
 have h3 := hz'.keep hk hg.size
 exact ⟨h3.same, h3.le, h3.max, h3.z, ⟨fun hne => by
   obtain ⟨b, o, e, b1, b2, b3⟩ := h2.off.row hne
   obtain ⟨b', o', e', c1, c2, c3⟩ := h3.off.row hne
   rw [e] at e'
   injection e' with e'
   injection e' with e1 e2
   subst e1 e2
   exact ⟨b, o, e, c1, b2, c3⟩, fun x hx hne => by
   obtain ⟨b, o, e, b1, b2, b3⟩ := h2.off.off x hx hne
   obtain ⟨b', o', e', c1, c2, c3⟩ := h3.off.off x hx hne
   rw [e] at e'
   injection e' with e'
   injection e' with e1 e2
   subst e1 e2
   exact ⟨b, o, e, c1, b2, c3⟩, h3.off.le⟩, h3.ni⟩
theorem PkRow.pos {w5 w : World} {ms : List PoM} {A : Option Addr} {n c : Nat} (h : PkRow w5 ms (.slice A n c) w) : PosIn w A ms := by
 obtain ⟨-, As, cs, e1, -, -, hsl⟩ := own_formG pom_ok h.own
 injection e1 with e1
 subst e1
 exact ⟨hsl, fun z hz => (h.each z hz).ok⟩
end Go.Proofs.YtpheiojmcafolaaGreatDoor
namespace Go.Proofs.YtpheiojmcafolaaGreatDoor
set_option maxRecDepth 100000
open Go.RowKit Go.Sort
set_option maxHeartbeats 12800000 in
theorem slice_Pick_bad (x : Aq) (ps : List PoM) (A : Option Addr) (c : Nat) (w : World) (hI : AqIn x w) (hP : PosIn w A ps) (hk : ¬ askErr x ps = 0) :
   Calls Tryz.prog 38 #[.slice x.Ea x.hs.length x.ec, .slice A ps.length c, .agg #[.string x.q.who.ty, .string x.q.who.id, .string x.q.act.ty, .string x.q.act.id, .string x.q.what.ty, .string x.q.what.id, .slice x.qa x.q.ctx.length x.qc]] w fun r w' => r = .returned (.tuple #[.slice none 0 0, errV (askErr x ps)]) ∧ RowKit.Below w.heap.size w w' := by
 have HEC := Lib.hid (fun W (hW : RowKit.Below w.heap.size w W) => ent_Check x.hs x.es x.Ea x.ec W (hI.later hW).ents hI.ec)
 have HAC := Lib.hid (fun W (hW : RowKit.Below w.heap.size w W) => auth_Check ps A c W (hP.later hW))
 have HEA := Lib.hid (fun W (hW : RowKit.Below w.heap.size w W) => eval_Ask x.q x.qa x.qc W hI.qz.1 hI.qz.2.1 hI.qz.2.2 hI.qc.1 hI.qc.2 hI.qk (hI.later hW).ctx)
 have HI := Lib.hid hI
 have HPS := Lib.hid hP
 have b0 : Blk (w.alloc (.cells #[.string x.q.who.ty, .string x.q.who.id, .string x.q.act.ty, .string x.q.act.id, .string x.q.what.ty, .string x.q.what.id, .slice x.qa x.q.ctx.length x.qc] 39)) w.heap.size 39 #[.string x.q.who.ty, .string x.q.who.id, .string x.q.act.ty, .string x.q.act.id, .string x.q.what.ty, .string x.q.what.id, .slice x.qa x.q.ctx.length x.qc] := Blk.new w _ _
 have hb0 : RowKit.Below w.heap.size w (w.alloc (.cells #[.string x.q.who.ty, .string x.q.who.id, .string x.q.act.ty, .string x.q.act.id, .string x.q.what.ty, .string x.q.what.id, .slice x.qa x.q.ctx.length x.qc] 39)) := by (repeat (first | assumption | exact Below.refl _ _ | apply Below.drew | apply below_drewN | (refine Below.alloc ?_ (by first | exact Nat.le_refl _ | omega | (simp; done) | (simp; omega)) _)))
 have hS0 : RqS w.heap.size x w (w.alloc (.cells #[.string x.q.who.ty, .string x.q.who.id, .string x.q.act.ty, .string x.q.act.id, .string x.q.what.ty, .string x.q.what.id, .slice x.qa x.q.ctx.length x.qc] 39)).drew := RqS.of b0.drew hb0.drew
 have B0 := Lib.hid b0.drew
 have HB := Lib.hid hb0.drew
 have HS0 := Lib.hid hS0
 have tk : (askErr x ps != 0) = true := by simpa using hk
 have he1 : errV (askErr x ps) = .iface 96 (.int .i64 (askErr x ps)) := by unfold errV; rw [if_neg hk]
 have HE1 := Lib.hid he1
 have HFF : Hid (∀ b c W, W.cell? ⟨b, 0, none⟩ = some (errV (entErr x.es)) → W.cell? ⟨b, 1, none⟩ = some (errV (aErr ps)) → W.cell? ⟨b, 2, none⟩ = some (errV (rqErr x.q)) → Calls Tryz.prog 74 #[.slice (some ⟨b, 0, none⟩) 3 c] W fun r w' => r = .returned (errV (askErr x ps)) ∧ w' = W) := fun b c W h1 h2 h3 => slice_first _ _ _ b c W h1 h2 h3
 clear hI hP hk b0 hb0 hS0 he1
 generalize askErr x ps = k at tk HE1 HFF ⊢
 generalize entErr x.es = k1 at HEC HFF
 generalize aErr ps = k2 at HAC HFF
 generalize rqErr x.q = k3 at HEA HFF
 rcases errV_shape k1 with e1 | e1 <;> rcases errV_shape k2 with e2 | e2 <;> rcases errV_shape k3 with e3 | e3
 all_goals
   rw [e1] at HEC HFF
   rw [e2] at HAC HFF
   rw [e3] at HEA HFF
   clear e1 e2 e3
   go_enter Tryz.func38, Tryz.ntmps38
   go_wp2_with fail
   refine wp_region_ord (S := RqS w.heap.size x w) [(0, false), (2, false), (4, false), (1, true), (3, true), (5, true), (6, true), (7, true), (8, false)] (by kernel_rfl) (by kernel_rfl) (fun _ _ _ _ _ h => h) HS0.out (fun hW' => ?_)
   generalize hwd : (w.alloc (.cells #[.string x.q.who.ty, .string x.q.who.id, .string x.q.act.ty, .string x.q.act.id, .string x.q.what.ty, .string x.q.what.id, .slice x.qa x.q.ctx.length x.qc] 39)).drew = wd at B0 HB HS0 hW' ⊢
   clear hwd hW' HS0
   simp only [ordOps, List.filterMap_cons, List.filterMap_nil, List.getElem?_cons_zero, List.getElem?_cons_succ, Option.map_some]
   (repeat (first | (refine hd_take (v := ?_) (by rfl) ?_ ?_; rotate_left; (focus (intro W hW; obtain ⟨s0, s1, s2, s3, s4, s5, s6, s7⟩ := hW; go_simp; try with_reducible rfl)); simp only [Act.put, List.setIfInBounds_toArray, List.set_cons_zero, List.set_cons_succ]) | (refine hd_skip (by rfl) ?_; simp only [Act.put, List.setIfInBounds_toArray, List.set_cons_zero, List.set_cons_succ])))
   refine hd_call (fun K hK => ?_)
   go_simp
   refine (HEC.out wd HB.out).mono ?_
   rintro r w2 ⟨rfl, hb2⟩
   have C0 := Lib.hid (B0.out.below hb2 B0.out.lt)
   have HB2 := Lib.hid (HB.out.trans (hb2.mono HB.out.size))
   refine hK _ _ (RqS.of C0.out HB2.out) ?_
   clear hK K hb2 B0 HB
   refine hd_call (fun K hK => ?_)
   go_simp
   refine (HAC.out w2 HB2.out).mono ?_
   rintro r w3 ⟨rfl, hb3⟩
   have D0 := Lib.hid (C0.out.below hb3 C0.out.lt)
   have HB3 := Lib.hid (HB2.out.trans (hb3.mono HB2.out.size))
   refine hK _ _ (RqS.of D0.out HB3.out) ?_
   clear hK K hb3 C0 HB2
   refine hd_call (fun K hK => ?_)
   go_simp
   refine (HEA.out w3 HB3.out).mono ?_
   rintro r w4 ⟨rfl, hb4⟩
   have E0 := Lib.hid (D0.out.below hb4 D0.out.lt)
   have HB4 := Lib.hid (HB3.out.trans (hb4.mono HB3.out.size))
   refine hK _ _ (RqS.of E0.out HB4.out) ?_
   clear hK K hb4 D0 HB3
   refine hd_call (fun K hK => ?_)
   go_simp
   refine hK _ _ (RqS.of (E0.out.alloc _) (HB4.out.alloc HB4.out.size _)) ?_
   clear hK K
   refine hd_call (fun K hK => ?_)
   go_simp
   generalize hw5 : w4.alloc _ = w5
   have F0 : Hid (Blk w5 w.heap.size 39 #[.string x.q.who.ty, .string x.q.who.id, .string x.q.act.ty, .string x.q.act.id, .string x.q.what.ty, .string x.q.what.id, .slice x.qa x.q.ctx.length x.qc]) := by show Blk _ _ _ _; rw [← hw5]; exact E0.out.alloc _
   have HB5 : Hid (RowKit.Below w.heap.size w w5) := by show RowKit.Below _ _ _; rw [← hw5]; exact HB4.out.alloc HB4.out.size _
   have HFI : Hid (Calls Tryz.prog 74 #[.slice (some ⟨w4.heap.size, 0, none⟩) 3 3] w5 fun r w' => r = .returned (errV k) ∧ w' = w5) := by
     show Calls _ _ _ _ _
     rw [← hw5]
     exact HFF.out w4.heap.size 3 _ (by rw [World.cell?_alloc_new]; rfl) (by rw [World.cell?_alloc_new]; rfl) (by rw [World.cell?_alloc_new]; rfl)
   clear hw5 E0 HB4
   refine HFI.out.mono ?_
   rintro r w6 ⟨rfl, rfl⟩
   obtain ⟨w5, rfl⟩ : ∃ w5 : World, w5 = w6 := ⟨_, rfl⟩
   refine hK _ _ (RqS.of F0.out HB5.out) ?_
   clear hK K HFI
   (repeat (first | (refine hd_take (v := ?_) (by rfl) ?_ ?_; rotate_left; (focus (intro W hW; obtain ⟨s0, s1, s2, s3, s4, s5, s6, s7⟩ := hW; go_simp; try with_reducible rfl)); simp only [Act.put, List.setIfInBounds_toArray, List.set_cons_zero, List.set_cons_succ]) | (refine hd_skip (by rfl) ?_; simp only [Act.put, List.setIfInBounds_toArray, List.set_cons_zero, List.set_cons_succ])))
   refine hd_nil ?_
   rw [HE1.out]
   go_wp2_with fail
   refine bodyPost_ret (v := .tuple #[.slice none 0 0, .iface 96 (.int .i64 k)]) (by simp [results, Tryz.results38, go_sem]) rfl ⟨by rw [HE1.out], HB5.out⟩
end Go.Proofs.YtpheiojmcafolaaGreatDoor
namespace Go.Proofs.YtpheiojmcafolaaGreatDoor
open Go.RowKit
section
variable {α : Type} {nm : α → List UInt8} {fb : α → Bool} {pe1 pe2 : α → Int} {vt : α → Int}
theorem filter_pick {f g : α → Bool} : ∀ {ps : List α}, (∀ p ∈ ps, f p = false → g p = false) → (ps.filter f).filter g = ps.filter g
 | [], _ => rfl
 | p :: r, h => by
   have ih := filter_pick (f := f) (g := g) fun q (hq : q ∈ r) => h q (by simp [hq])
   have hp := h p (by simp)
   cases hf : f p with
   | true =>
     rw [List.filter_cons_of_pos hf]
     cases hg : g p with
     | true => rw [List.filter_cons_of_pos hg, List.filter_cons_of_pos hg, ih]
     | false => rw [List.filter_cons_of_neg (by simp [hg]), List.filter_cons_of_neg (by simp [hg]), ih]
   | false =>
     rw [List.filter_cons_of_neg (by simp [hf]), List.filter_cons_of_neg (by simp [hp hf]), ih]
theorem pick_same {f : α → Bool} {ps : List α} (h : ∀ p ∈ ps, f p = false → vt p = 0) :
   forbids nm fb vt (ps.filter f) = forbids nm fb vt ps ∧ permits nm fb vt (ps.filter f) = permits nm fb vt ps ∧ wrongs nm vt (ps.filter f) = wrongs nm vt ps := by
 unfold forbids permits wrongs
 refine ⟨?_, ?_, ?_⟩
 · rw [filter_pick fun p hp hf => by simp [h p hp hf]]
 · rw [filter_pick fun p hp hf => by simp [h p hp hf]]
 · rw [filter_pick fun p hp hf => by simp [h p hp hf]]
theorem pick_answer {f : α → Bool} {ps : List α} (h : ∀ p ∈ ps, f p = false → vt p = 0) :
   byP nm fb vt (ps.filter f) = byP nm fb vt ps ∧ allowP nm fb vt (ps.filter f) = allowP nm fb vt ps ∧ wrongs nm vt (ps.filter f) = wrongs nm vt ps := by
 obtain ⟨h1, h2, h3⟩ := pick_same (nm := nm) (fb := fb) h
 unfold byP allowP
 rw [h1, h2]
 exact ⟨rfl, rfl, h3⟩
theorem pick_ok {f : α → Bool} {ps : List α} (h : authErr nm pe1 pe2 ps = 0) : authErr nm pe1 pe2 (ps.filter f) = 0 := by
 obtain ⟨h1, h2, h3⟩ := (auth_ok nm pe1 pe2 ps).1 h
 refine (auth_ok nm pe1 pe2 _).2 ⟨Nat.le_trans (List.length_filter_le _ _) h1, fun p hp => h2 p (List.mem_filter.1 hp).1, ?_⟩
 exact List.Pairwise.sublist (List.filter_sublist.map _) h3
theorem pick_one {f : α → Bool} (p : α) : ([p].filter f).length = if f p = true then 1 else 0 := by
 cases hf : f p <;> simp [hf]
theorem pick_mem {f : α → Bool} {ps : List α} (hn : (ps.map nm).Nodup) {p : α} (hp : p ∈ ps) : nm p ∈ (ps.filter f).map nm ↔ f p = true := by
 constructor
 · intro h
   obtain ⟨q, hq, e⟩ := List.mem_map.1 h
   obtain ⟨h1, h2⟩ := List.mem_filter.1 hq
   rw [← nm_inj hn h1 hp e]; exact h2
 · intro h; exact List.mem_map.2 ⟨p, List.mem_filter.2 ⟨hp, h⟩, rfl⟩
theorem pick_matters {f : α → Bool} {ps : List α} (hn : (ps.map nm).Nodup) (h : ∀ p ∈ ps, f p = false → vt p = 0) {p : α} (hp : p ∈ ps) (hf : f p = false) : nm p ∉ byP nm fb vt ps ∧ nm p ∉ wrongs nm vt ps := by
 have h0 := h p hp hf
 refine ⟨fun hc => ?_, fun hc => ?_⟩
 · have := by_holds hn hp hc; omega
 · have := (wrong_iff hn hp).1 hc; omega
end
end Go.Proofs.YtpheiojmcafolaaGreatDoor
