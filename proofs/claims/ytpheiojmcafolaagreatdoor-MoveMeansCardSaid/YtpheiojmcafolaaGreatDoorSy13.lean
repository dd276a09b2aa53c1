/-
 THE WALKS: slices.Equal of nodes; package bag: has, kept, both, Has, All, Any.
 THE WALKS: package bag: kept, both, Has, All, Any, of values.
 THE WALKS: bag.Has, bag.All, bag.Any, of values.
 PLAIN LAWS: the numbers of a value are numbers of 64 bits.
-/
import Derived.Test.YtpheiojmcafolaaGreatDoorSy09
import Derived.Test.YtpheiojmcafolaaGreatDoorSy12
import Derived.Test.YtpheiojmcafolaaGreatDoorSy10
namespace Go.Proofs.YtpheiojmcafolaaGreatDoor
set_option maxRecDepth 100000
open Go.RowKit Go.Sort
theorem eq_take {xs ys : List Nd} {k : Nat} {x y : Nd} (hx : xs[k]? = some x) (hy : ys[k]? = some y) (h : xs.take k = ys.take k) (hh : x = y) : xs.take (k + 1) = ys.take (k + 1) := by
 rw [List.take_add_one, List.take_add_one, hx, hy, h, hh]
theorem ne_take {xs ys : List Nd} {k : Nat} {x y : Nd} (hx : xs[k]? = some x) (hy : ys[k]? = some y) (hh : x ≠ y) : ¬ xs = ys := by
 intro e; subst e; rw [hx] at hy; injection hy with hy; exact hh hy
set_option maxHeartbeats 3200000 in
theorem equal_nds (xs ys : List Nd) (A1 A2 : Option Addr) (c1 c2 : Nat) (w : World) (h1 : NdSl w w.heap.size A1 xs) (h2 : NdSl w w.heap.size A2 ys) (l1 : xs.length ≤ 9223372036854775807) :
 Calls Tryz.prog 177 #[.slice A1 xs.length c1, .slice A2 ys.length c2] w fun r w' => r = .returned (.bool (decide (xs = ys))) ∧ RowKit.Below w.heap.size w w' := by
 have H1 := Lib.hid h1;have H2 := Lib.hid h2;obtain ⟨v, hv⟩ : ∃ v, decide (xs = ys) = v := ⟨_, rfl⟩;rw [hv];have HV := Lib.hid hv;clear hv h1 h2;by_cases hl : xs.length = ys.length
 · have tl : ((xs.length : Int) != (ys.length : Int)) = false := by simp [hl]
   have hle : ys.length ≤ xs.length := by omega
   have hle2 : xs.length ≤ ys.length := by omega
   have HL := Lib.hid hl;clear hl;go_enter Tryz.func177, Tryz.ntmps177
   go_wp2_with fail
   go_loopw [13] (fun kk wr => ∃ k : Nat, kk = .int .i64 k ∧ k ≤ xs.length ∧ Hid (xs.take k = ys.take k) ∧ RowKit.Below w.heap.size w wr) (fun kk _ => xs.length - (intOf kk).toNat)
   case atStart => exact ⟨0, rfl, by omega, by simp [Hid], RowKit.Below.refl _ _⟩
   case round =>
    obtain ⟨k, rfl, hk, HK, hbr⟩ := hrel;have hzr := hbr.size;by_cases hlt : k < xs.length
    · obtain ⟨x, hx⟩ : ∃ x, xs[k]? = some x := ⟨_, List.getElem?_eq_getElem hlt⟩;obtain ⟨y, hy⟩ : ∃ y, ys[k]? = some y := ⟨_, List.getElem?_eq_getElem (by omega)⟩;obtain ⟨b1, o1, rfl, hb1, hc1⟩ := (H1.out.below hbr).at_ hlt;obtain ⟨b2, o2, rfl, hb2, hc2⟩ := (H2.out.below hbr).at_ (i := k) (by omega);obtain ⟨d0, d1, d2, d3⟩ := hc1 k x hx;obtain ⟨e0, e1, e2, e3⟩ := hc2 k y hy;have HX := Lib.hid hx;have HY := Lib.hid hy;clear hc1 hc2 hx hy;have i1 : (k : Int) < (xs.length : Int) := (by omega);have i2 : (k : Int) < (ys.length : Int) := (by omega);have i0 : 0 ≤ (k : Int) := (by omega);have heq : ∀ W, (binOp .neq 37 (.agg #[.int .i64 x.op, .int .i64 x.n, .string x.s, .string x.t]) (.agg #[.int .i64 y.op, .int .i64 y.n, .string y.s, .string y.t])).run Tryz.prog W = .ok (.bool (!decide (x = y))) W := fun W => neq_nd x y W;have heq2 : ∀ W, (Op.equalIn 10000 37 (.agg #[.int .i64 x.op, .int .i64 x.n, .string x.s, .string x.t]) (.agg #[.int .i64 y.op, .int .i64 y.n, .string y.s, .string y.t])).run Tryz.prog W = .ok (decide (x = y)) W := fun W => eqn_nd x y W;by_cases hh : x = y
      · have hd : decide (x = y) = true := (by simp [hh]);rw [hd] at heq heq2;have HK2 : Hid (xs.take (k + 1) = ys.take (k + 1)) := eq_take HX.out HY.out HK.out hh;clear hh hd;go_wp2_with fail
        go_quiet (fail)
        go_wp2_with fail
        exact ⟨⟨k + 1, by go_num, by omega, HK2, below_drewN hbr _⟩, by simp [intOf]; omega⟩
      · have hd : decide (x = y) = false := (by simp [hh]);rw [hd] at heq heq2;have HVF : Hid (v = false) := (by show _ = _; rw [← HV.out]; simpa using ne_take HX.out HY.out hh);clear hh hd;go_wp2_with fail
        go_quiet (fail)
        go_wp2_with fail
        go_ret
        rw [HVF.out];exact ⟨rfl, below_drewN hbr _⟩
    · have HVT : Hid (v = true) := by
       show _ = _;rw [← HV.out];have h := HK.out;rw [List.take_of_length_le (by omega), List.take_of_length_le (by omega)] at h;simpa using h
      go_wp2_with fail
      go_ret
      rw [HVT.out];exact ⟨rfl, hbr⟩
 · have tl : ((xs.length : Int) != (ys.length : Int)) = true := by simp; omega
   have HVF : Hid (v = false) := by show _ = _; rw [← HV.out]; simp; intro e; exact hl (by rw [e])
   clear hl;go_enter Tryz.func177, Tryz.ntmps177
   go_wp2_with fail
   go_ret
   rw [HVF.out];exact ⟨rfl, RowKit.Below.refl _ _⟩
set_option maxHeartbeats 3200000 in
theorem equal_val (xs ys : List Nd) (A1 A2 : Option Addr) (c1 c2 : Nat) (w : World) (h1 : NdSl w w.heap.size A1 xs) (h2 : NdSl w w.heap.size A2 ys) (l1 : xs.length ≤ 9223372036854775807) :
 Calls Tryz.prog 119 #[.slice A1 xs.length c1, .slice A2 ys.length c2] w fun r w' => r = .returned (.bool (decide (xs = ys))) ∧ RowKit.Below w.heap.size w w' := by
 have H1 := Lib.hid h1;have H2 := Lib.hid h2;obtain ⟨v, hv⟩ : ∃ v, decide (xs = ys) = v := ⟨_, rfl⟩;rw [hv];have HV := Lib.hid hv;clear hv h1 h2;by_cases hl : xs.length = ys.length
 · have tl : ((xs.length : Int) != (ys.length : Int)) = false := by simp [hl]
   have hle : ys.length ≤ xs.length := by omega
   have hle2 : xs.length ≤ ys.length := by omega
   have HL := Lib.hid hl;clear hl;go_enter Tryz.func119, Tryz.ntmps119
   go_wp2_with fail
   go_loopw [13] (fun kk wr => ∃ k : Nat, kk = .int .i64 k ∧ k ≤ xs.length ∧ Hid (xs.take k = ys.take k) ∧ RowKit.Below w.heap.size w wr) (fun kk _ => xs.length - (intOf kk).toNat)
   case atStart => exact ⟨0, rfl, by omega, by simp [Hid], RowKit.Below.refl _ _⟩
   case round =>
    obtain ⟨k, rfl, hk, HK, hbr⟩ := hrel;have hzr := hbr.size;by_cases hlt : k < xs.length
    · obtain ⟨x, hx⟩ : ∃ x, xs[k]? = some x := ⟨_, List.getElem?_eq_getElem hlt⟩;obtain ⟨y, hy⟩ : ∃ y, ys[k]? = some y := ⟨_, List.getElem?_eq_getElem (by omega)⟩;obtain ⟨b1, o1, rfl, hb1, hc1⟩ := (H1.out.below hbr).at_ hlt;obtain ⟨b2, o2, rfl, hb2, hc2⟩ := (H2.out.below hbr).at_ (i := k) (by omega);obtain ⟨d0, d1, d2, d3⟩ := hc1 k x hx;obtain ⟨e0, e1, e2, e3⟩ := hc2 k y hy;have HX := Lib.hid hx;have HY := Lib.hid hy;clear hc1 hc2 hx hy;have i1 : (k : Int) < (xs.length : Int) := (by omega);have i2 : (k : Int) < (ys.length : Int) := (by omega);have i0 : 0 ≤ (k : Int) := (by omega);have heq : ∀ W, (binOp .neq 37 (.agg #[.int .i64 x.op, .int .i64 x.n, .string x.s, .string x.t]) (.agg #[.int .i64 y.op, .int .i64 y.n, .string y.s, .string y.t])).run Tryz.prog W = .ok (.bool (!decide (x = y))) W := fun W => neq_nd x y W;have heq2 : ∀ W, (Op.equalIn 10000 37 (.agg #[.int .i64 x.op, .int .i64 x.n, .string x.s, .string x.t]) (.agg #[.int .i64 y.op, .int .i64 y.n, .string y.s, .string y.t])).run Tryz.prog W = .ok (decide (x = y)) W := fun W => eqn_nd x y W;by_cases hh : x = y
      · have hd : decide (x = y) = true := (by simp [hh]);rw [hd] at heq heq2;have HK2 : Hid (xs.take (k + 1) = ys.take (k + 1)) := eq_take HX.out HY.out HK.out hh;clear hh hd;go_wp2_with fail
        go_quiet (fail)
        go_wp2_with fail
        exact ⟨⟨k + 1, by go_num, by omega, HK2, below_drewN hbr _⟩, by simp [intOf]; omega⟩
      · have hd : decide (x = y) = false := (by simp [hh]);rw [hd] at heq heq2;have HVF : Hid (v = false) := (by show _ = _; rw [← HV.out]; simpa using ne_take HX.out HY.out hh);clear hh hd;go_wp2_with fail
        go_quiet (fail)
        go_wp2_with fail
        go_ret
        rw [HVF.out];exact ⟨rfl, below_drewN hbr _⟩
    · have HVT : Hid (v = true) := by
       show _ = _;rw [← HV.out];have h := HK.out;rw [List.take_of_length_le (by omega), List.take_of_length_le (by omega)] at h;simpa using h
      go_wp2_with fail
      go_ret
      rw [HVT.out];exact ⟨rfl, hbr⟩
 · have tl : ((xs.length : Int) != (ys.length : Int)) = true := by simp; omega
   have HVF : Hid (v = false) := by show _ = _; rw [← HV.out]; simp; intro e; exact hl (by rw [e])
   clear hl;go_enter Tryz.func119, Tryz.ntmps119
   go_wp2_with fail
   go_ret
   rw [HVF.out];exact ⟨rfl, RowKit.Below.refl _ _⟩
structure VCap (v : List Nd) (A : Option Addr) (c : Nat) (b : Nat) (W : World) : Prop where
 c0 : W.cell? ⟨b, 0, none⟩ = some (.slice A v.length c)
 lt : b < W.heap.size
 sl : NdSl W W.heap.size A v
theorem VCap.later {v : List Nd} {A : Option Addr} {c b : Nat} {W W' : World} (h : VCap v A c b W) (hb : RowKit.Below W.heap.size W W') : VCap v A c b W' :=
 ⟨(hb.cell (p := ⟨b, 0, none⟩) h.lt).trans h.c0, Nat.lt_of_lt_of_le h.lt hb.size, (h.sl.below hb).more hb.size⟩
set_option maxHeartbeats 1600000 in
theorem has_clo (v : List Nd) (A : Option Addr) (c b : Nat) (y : NsM) (w : World) (h : VCap v A c b w) (hy : NsGood w w.heap.size y) (hl : y.e.length ≤ 9223372036854775807) :
 Calls Tryz.prog 176 #[.slice y.A y.e.length y.c, .pointer (some ⟨b, 0, none⟩)] w fun r w' => r = .returned (.bool (decide (y.e = v))) ∧ RowKit.Below w.heap.size w w' := by
 have H := Lib.hid (equal_nds y.e v y.A A y.c c w hy.sl h.sl hl);have c0 := h.c0;clear h hy;generalize decide (y.e = v) = q at H ⊢;go_enter Tryz.func176, Tryz.ntmps176
 go_wp2_with fail
 refine H.out.mono ?_;rintro r w1 ⟨rfl, hb1⟩;have HB := Lib.hid hb1;clear hb1 c0;go_wp2_with fail
 go_ret
 exact ⟨rfl, HB.out⟩
theorem any_at {ps : List NsM} {f : List Nd → Bool} {k : Nat} {x : NsM} (hx : ps[k]? = some x) (h : (ps.take k).any (fun y => f y.e) = false) (hh : f x.e = false) : (ps.take (k + 1)).any (fun y => f y.e) = false := by
 rw [List.take_add_one, hx, List.any_append, h]; simp [hh]
theorem any_hit_at {ps : List NsM} {f : List Nd → Bool} {k : Nat} {x : NsM} (hx : ps[k]? = some x) (hh : f x.e = true) : ps.any (fun y => f y.e) = true := List.any_eq_true.2 ⟨x, List.mem_of_getElem? hx, hh⟩
set_option maxHeartbeats 3200000 in
theorem hasc_index (v : List Nd) (A : Option Addr) (c b : Nat) (w0 : World) (hcl : VCap v A c b w0) (ps : List NsM) (Ap : Option Addr) (cp : Nat) (w : World) (hw0 : RowKit.Below w0.heap.size w0 w) (hl : ps.length ≤ 9223372036854775807) (hs : NssAt w Ap ps) :
 Calls Tryz.prog 178 #[.slice Ap ps.length cp, .func (.func 176) #[] #[.pointer (some ⟨b, 0, none⟩)]] w fun r w' => (∃ k : Int, r = .returned (.int .i64 k) ∧ decide (0 ≤ k) = ps.any (fun y => decide (y.e = v))) ∧ RowKit.Below w.heap.size w w' := by
 have HM := Lib.hid hcl;have HW0 := Lib.hid hw0;have HS := Lib.hid hs;clear hcl hs hw0;go_enter Tryz.func178, Tryz.ntmps178
 go_wp2_with fail
 go_loopw [8] (fun kk wr => ∃ k : Nat, kk = .int .i64 k ∧ k ≤ ps.length ∧ Hid ((ps.take k).any (fun y => decide (y.e = v)) = false) ∧ RowKit.Below w.heap.size w wr) (fun kk _ => ps.length - (intOf kk).toNat)
 case atStart => exact ⟨0, rfl, by omega, by simp [Hid], RowKit.Below.refl _ _⟩
 case round =>
  obtain ⟨k, rfl, hk, HK, hbr⟩ := hrel;have hzr := hbr.size;by_cases hlt : k < ps.length
  · obtain ⟨x, hx⟩ : ∃ x, ps[k]? = some x := ⟨_, List.getElem?_eq_getElem hlt⟩;obtain ⟨b1, o1, rfl, hb1, d0⟩ := nsSl_at (HS.out.later hbr).sl hx;have HX := Lib.hid hx;have HC := Lib.hid (has_clo v A c b x wr (HM.out.later (HW0.out.trans (hbr.mono HW0.out.size))) ((HS.out.later hbr).good x (List.mem_of_getElem? hx)) (by have := ((HS.out.later hbr).good x (List.mem_of_getElem? hx)); have h1 := this.le; have h2 := this.max; omega));clear hx;cases hh : decide (x.e = v) with
    | true =>
     have HH := Lib.hid hh;rw [hh] at HC;clear hh;go_wp2_with fail
     refine HC.out.mono ?_;rintro r w1 ⟨rfl, hb2⟩;have hw1 := hbr.trans (hb2.mono hbr.size);clear hb2 d0;go_wp2_with fail
     go_ret
     refine ⟨⟨k, rfl, ?_⟩, hw1⟩;rw [any_hit_at (f := fun e => decide (e = v)) HX.out HH.out];simp
    | false =>
     have HH := Lib.hid hh;rw [hh] at HC;clear hh;go_wp2_with fail
     refine HC.out.mono ?_;rintro r w1 ⟨rfl, hb2⟩;have hw1 := hbr.trans (hb2.mono hbr.size);clear hb2 d0;go_wp2_with fail
     exact ⟨⟨k + 1, by go_num, by omega, any_at (f := fun e => decide (e = v)) HX.out HK.out HH.out, hw1⟩, by simp [intOf]; omega⟩
  · have HE : Hid (ps.any (fun y => decide (y.e = v)) = false) := by
     have := HK.out;rw [List.take_of_length_le (by omega)] at this;exact this
    go_wp2_with fail
    go_ret
    exact ⟨⟨-1, rfl, by rw [HE.out]; rfl⟩, hbr⟩
set_option maxHeartbeats 1600000 in
theorem hasc_contains (v : List Nd) (A : Option Addr) (c b : Nat) (w0 : World) (hcl : VCap v A c b w0) (ps : List NsM) (Ap : Option Addr) (cp : Nat) (w : World) (hw0 : RowKit.Below w0.heap.size w0 w) (hl : ps.length ≤ 9223372036854775807) (hs : NssAt w Ap ps) :
 Calls Tryz.prog 154 #[.slice Ap ps.length cp, .func (.func 176) #[] #[.pointer (some ⟨b, 0, none⟩)]] w fun r w' => r = .returned (.bool (ps.any (fun y => decide (y.e = v)))) ∧ RowKit.Below w.heap.size w w' := by
 have HI := Lib.hid (hasc_index v A c b w0 hcl ps Ap cp w hw0 hl hs);clear hcl hs hw0;generalize ps.any (fun y => decide (y.e = v)) = q at HI ⊢;go_enter Tryz.func154, Tryz.ntmps154
 go_wp2_with fail
 refine HI.out.mono ?_;rintro r w1 ⟨⟨k, rfl, hk⟩, hb1⟩;have HK := Lib.hid hk;clear hk;go_wp2_with fail
 go_ret
 exact ⟨ret_bool HK.out, hb1⟩
set_option maxHeartbeats 1600000 in
theorem bag_has (v : List Nd) (A : Option Addr) (c : Nat) (ps : List NsM) (Ap : Option Addr) (cp : Nat) (w : World) (hl : ps.length ≤ 9223372036854775807) (hs : NssAt w Ap ps) (hv : NdSl w w.heap.size A v) :
 Calls Tryz.prog 151 #[.slice Ap ps.length cp, .slice A v.length c] w fun r w' => r = .returned (.bool (ps.any (fun y => decide (y.e = v)))) ∧ RowKit.Below w.heap.size w w' := by
 have hb0 : RowKit.Below w.heap.size w (w.alloc (.cells #[.slice A v.length c] 22)) := by (repeat (first | assumption | exact Below.refl _ _ | apply Below.drew | apply below_drewN | (refine Below.alloc ?_ (by first | exact Nat.le_refl _ | omega | (simp; done) | (simp; omega)) _)))
 have HC := Lib.hid (hasc_contains v A c w.heap.size (w.alloc (.cells #[.slice A v.length c] 22)) ⟨by simp [World.cell?_alloc_new], by simp, (hv.below hb0).more hb0.size⟩ ps Ap cp (w.alloc (.cells #[.slice A v.length c] 22)) (RowKit.Below.refl _ _) hl (hs.later hb0));clear hs hv;generalize (ps.any (fun y => decide (y.e = v))) = q at HC ⊢;go_enter Tryz.func151, Tryz.ntmps151
 go_wp2_with fail
 refine HC.out.mono ?_;rintro r w1 ⟨rfl, hb1⟩;have hw1 := hb0.trans (hb1.mono hb0.size);clear hb1;go_wp2_with fail
 go_ret
 exact ⟨rfl, hw1⟩
set_option maxHeartbeats 3200000 in
theorem hasb_index (qs : List NsM) (Aq : Option Addr) (cq : Nat) (w0 : World) (hcl : NssAt w0 Aq qs) (hql : qs.length ≤ 9223372036854775807) (ps : List NsM) (Ap : Option Addr) (cp : Nat) (w : World) (hw0 : RowKit.Below w0.heap.size w0 w) (hl : ps.length ≤ 9223372036854775807) (hs : NssAt w Ap ps) :
 Calls Tryz.prog 178 #[.slice Ap ps.length cp, .func (.func 151) #[.slice Aq qs.length cq] #[]] w fun r w' => (∃ k : Int, r = .returned (.int .i64 k) ∧ decide (0 ≤ k) = ps.any (fun y => qs.any (fun q => decide (q.e = y.e)))) ∧ RowKit.Below w.heap.size w w' := by
 have HM := Lib.hid hcl;have HW0 := Lib.hid hw0;have HS := Lib.hid hs;clear hcl hs hw0;go_enter Tryz.func178, Tryz.ntmps178
 go_wp2_with fail
 go_loopw [8] (fun kk wr => ∃ k : Nat, kk = .int .i64 k ∧ k ≤ ps.length ∧ Hid ((ps.take k).any (fun y => qs.any (fun q => decide (q.e = y.e))) = false) ∧ RowKit.Below w.heap.size w wr) (fun kk _ => ps.length - (intOf kk).toNat)
 case atStart => exact ⟨0, rfl, by omega, by simp [Hid], RowKit.Below.refl _ _⟩
 case round =>
  obtain ⟨k, rfl, hk, HK, hbr⟩ := hrel;have hzr := hbr.size;by_cases hlt : k < ps.length
  · obtain ⟨x, hx⟩ : ∃ x, ps[k]? = some x := ⟨_, List.getElem?_eq_getElem hlt⟩;obtain ⟨b1, o1, rfl, hb1, d0⟩ := nsSl_at (HS.out.later hbr).sl hx;have HX := Lib.hid hx;have HC := Lib.hid (bag_has x.e x.A x.c qs Aq cq wr hql (HM.out.later (HW0.out.trans (hbr.mono HW0.out.size))) ((HS.out.later hbr).good x (List.mem_of_getElem? hx)).sl);clear hx;cases hh : qs.any (fun q => decide (q.e = x.e)) with
    | true =>
     have HH := Lib.hid hh;rw [hh] at HC;clear hh;go_wp2_with fail
     refine HC.out.mono ?_;rintro r w1 ⟨rfl, hb2⟩;have hw1 := hbr.trans (hb2.mono hbr.size);clear hb2 d0;go_wp2_with fail
     go_ret
     refine ⟨⟨k, rfl, ?_⟩, hw1⟩;rw [any_hit_at (f := fun e => qs.any (fun q => decide (q.e = e))) HX.out HH.out];simp
    | false =>
     have HH := Lib.hid hh;rw [hh] at HC;clear hh;go_wp2_with fail
     refine HC.out.mono ?_;rintro r w1 ⟨rfl, hb2⟩;have hw1 := hbr.trans (hb2.mono hbr.size);clear hb2 d0;go_wp2_with fail
     exact ⟨⟨k + 1, by go_num, by omega, any_at (f := fun e => qs.any (fun q => decide (q.e = e))) HX.out HK.out HH.out, hw1⟩, by simp [intOf]; omega⟩
  · have HE : Hid (ps.any (fun y => qs.any (fun q => decide (q.e = y.e))) = false) := by
     have := HK.out;rw [List.take_of_length_le (by omega)] at this;exact this
    go_wp2_with fail
    go_ret
    exact ⟨⟨-1, rfl, by rw [HE.out]; rfl⟩, hbr⟩
set_option maxHeartbeats 1600000 in
theorem hasb_contains (qs : List NsM) (Aq : Option Addr) (cq : Nat) (w0 : World) (hcl : NssAt w0 Aq qs) (hql : qs.length ≤ 9223372036854775807) (ps : List NsM) (Ap : Option Addr) (cp : Nat) (w : World) (hw0 : RowKit.Below w0.heap.size w0 w) (hl : ps.length ≤ 9223372036854775807) (hs : NssAt w Ap ps) :
 Calls Tryz.prog 154 #[.slice Ap ps.length cp, .func (.func 151) #[.slice Aq qs.length cq] #[]] w fun r w' => r = .returned (.bool (ps.any (fun y => qs.any (fun q => decide (q.e = y.e))))) ∧ RowKit.Below w.heap.size w w' := by
 have HI := Lib.hid (hasb_index qs Aq cq w0 hcl hql ps Ap cp w hw0 hl hs);clear hcl hs hw0;generalize ps.any (fun y => qs.any (fun q => decide (q.e = y.e))) = q at HI ⊢;go_enter Tryz.func154, Tryz.ntmps154
 go_wp2_with fail
 refine HI.out.mono ?_;rintro r w1 ⟨⟨k, rfl, hk⟩, hb1⟩;have HK := Lib.hid hk;clear hk;go_wp2_with fail
 go_ret
 exact ⟨ret_bool HK.out, hb1⟩
end Go.Proofs.YtpheiojmcafolaaGreatDoor
namespace Go.Proofs.YtpheiojmcafolaaGreatDoor
set_option maxRecDepth 100000
open Go.RowKit Go.Sort
theorem filter_step {ps : List NsM} {f : NsM → Bool} {k : Nat} {x : NsM} (hx : ps[k]? = some x) : (ps.take (k + 1)).filter f = (ps.take k).filter f ++ if f x = true then [x] else [] := by
 rw [List.take_add_one, hx, List.filter_append]; cases h : f x <;> simp [h]
set_option maxHeartbeats 3200000 in
theorem bag_kept (qs : List NsM) (Aq : Option Addr) (cq : Nat) (ps : List NsM) (Ap : Option Addr) (cp : Nat) (w : World) (hql : qs.length ≤ 9223372036854775807) (hl : ps.length ≤ 1000) (hq : NssAt w Aq qs) (hs : NssAt w Ap ps) :
 Calls Tryz.prog 153 #[.slice Ap ps.length cp, .func (.func 151) #[.slice Aq qs.length cq] #[]] w fun r w' => ∃ Ak ck, r = .returned (.slice Ak (ps.filter (fun y => qs.any (fun q => decide (q.e = y.e)))).length ck) ∧ RowKit.Below w.heap.size w w' := by
 obtain ⟨i0, hi, hz0, hz1, hz2⟩ := info_parts ns_info;have HQ := Lib.hid hq;have HS := Lib.hid hs;obtain ⟨P, hP⟩ : ∃ P : NsM → Bool, P = fun y => qs.any (fun q => decide (q.e = y.e)) := ⟨_, rfl⟩;rw [← hP];have HP := Lib.hid hP;clear hq hs hP;go_enter Tryz.func153, Tryz.ntmps153
 go_wp2_with fail
 go_loopw [5, 10] (fun ov kk wr => ∃ (k : Nat) (ms : List NsM), kk = .int .i64 k ∧ k ≤ ps.length ∧ ms.length ≤ k ∧ Hid (ms = (ps.take k).filter P) ∧ Hid (wr.ownsRow w.heap.size 22 1 ov ms.length (flatG NsM.cells ms)) ∧ RowKit.Below w.heap.size w wr) (fun _ kk _ => ps.length - (intOf kk).toNat)
 case atStart => exact ⟨0, [], rfl, by omega, by simp, rfl, World.ownsRow_nil _ _ _ _, RowKit.Below.refl _ _⟩
 case round =>
  obtain ⟨k, ms, rfl, hk, hml, HM, HO, hbr⟩ := hrel;have hzr := hbr.size;obtain ⟨Ao, co, hvo, hco⟩ := own_sl HO.out;subst hvo;by_cases hlt : k < ps.length
  · obtain ⟨x, hx⟩ : ∃ x, ps[k]? = some x := ⟨_, List.getElem?_eq_getElem hlt⟩;obtain ⟨b1, o1, rfl, hb1, d0⟩ := nsSl_at (HS.out.later hbr).sl hx;have HX := Lib.hid hx;have hcl := bag_has x.e x.A x.c qs Aq cq wr hql (HQ.out.later hbr) ((HS.out.later hbr).good x (List.mem_of_getElem? hx)).sl;have hpx : (qs.any (fun q => decide (q.e = x.e))) = P x := (by rw [HP.out]);rw [hpx] at hcl;have HC := Lib.hid hcl;have HST := Lib.hid (filter_step (f := P) hx);clear hx hcl hpx;cases hh : P x with
    | true =>
     rw [hh] at HC;have HM2 : Hid (ms ++ [x] = (ps.take (k + 1)).filter P) := (by show _ = _; rw [HST.out, hh, HM.out]; rfl);clear hh;go_wp2_with fail
     refine HC.out.mono ?_;rintro r w1 ⟨rfl, hb2⟩;have hw1 := hbr.trans (hb2.mono hbr.size);have HO1 := Lib.hid (own_keep (own_keep HO.out hb2) (by (repeat (first | assumption | exact Below.refl _ _ | apply Below.drew | apply below_drewN | (refine Below.alloc ?_ (by first | exact Nat.le_refl _ | omega | (simp; done) | (simp; omega)) _))) : RowKit.Below w1.heap.size w1 (w1.alloc (.cells #[.slice x.A x.e.length x.c] 22))));have HOL : Hid (∀ q, (Value.slice Ao ms.length co).ownBlock = some q → w.heap.size ≤ q) := fun q h => (own_lt HO.out h).1;have hzw1 := hw1.size;clear hb2 d0;go_wp2_with (at_builtin; refine wpList_append_own_at _ rfl (.tmp 17) (.tmp 19) 214 rfl w.heap.size 22 i0 _ 1 24 Tryz.underlying214 hi hz0 hz1 hz2 rfl (by omega) _ ms.length (flatG NsM.cells ms) rfl HO1.out ⟨w1.heap.size, 0, none⟩ 1 1 [.slice x.A x.e.length x.c] rfl rfl (cell_one_new _ _ _) (by simp [Value.oneCell']) (by unfold maxLen; omega) (by omega) (by simp; omega) ?_; intro v6 w6 hown6 hgrow6 _ _; obtain ⟨A6, c6, hv6, hc6⟩ := own_sl hown6; subst hv6)
     have hw6 : RowKit.Below w.heap.size w w6 := RowKit.Below.grown (w := w1.alloc (.cells #[.slice x.A x.e.length x.c] 22)) (by (repeat (first | assumption | exact Below.refl _ _ | apply Below.drew | apply below_drewN | (refine Below.alloc ?_ (by first | exact Nat.le_refl _ | omega | (simp; done) | (simp; omega)) _)))) hgrow6 (by simp; omega) (fun q hq => HOL.out q hq);have HO6 : Hid (w6.ownsRow w.heap.size 22 1 (.slice A6 (ms.length + 1) c6) (ms ++ [x]).length (flatG NsM.cells (ms ++ [x]))) := by
      show World.ownsRow _ _ _ _ _ _ _;rw [List.length_append, ns_snoc]; exact hown6
     clear hown6 hgrow6;go_wp2_with fail
     exact ⟨⟨k + 1, ms ++ [x], by go_num, by omega, by simp; omega, HM2, HO6, hw6⟩, by simp [intOf]; omega⟩
    | false =>
     rw [hh] at HC;have HM2 : Hid (ms = (ps.take (k + 1)).filter P) := (by show _ = _; rw [HST.out, hh, HM.out]; simp);clear hh;go_wp2_with fail
     refine HC.out.mono ?_;rintro r w1 ⟨rfl, hb2⟩;have hw1 := hbr.trans (hb2.mono hbr.size);have HO1 := Lib.hid (own_keep HO.out hb2);clear hb2 d0;go_wp2_with fail
     exact ⟨⟨k + 1, ms, by go_num, by omega, by omega, HM2, HO1, hw1⟩, by simp [intOf]; omega⟩
  · have HE : Hid (ms = ps.filter P) := by
     have := HM.out;rw [List.take_of_length_le (by omega)] at this;exact this
    go_wp2_with fail
    go_ret
    exact ⟨Ao, co, by rw [← HE.out]; rfl, hbr⟩
structure ValIn (v : List Nd) (A : Option Addr) (c : Nat) (w : World) : Prop where
 ok : valErr v = 0
 nd : NdOk v
 le : v.length ≤ c
 max : c ≤ 9223372036854775807
 sl : NdSl w w.heap.size A v
theorem ValIn.later {v : List Nd} {A : Option Addr} {c : Nat} {w w' : World} (h : ValIn v A c w) (hb : RowKit.Below w.heap.size w w') : ValIn v A c w' := ⟨h.ok, h.nd, h.le, h.max, (h.sl.below hb).more hb.size⟩
theorem ValIn.head {v : List Nd} {A : Option Addr} {c : Nat} {w : World} (h : ValIn v A c w) : ∃ (x : Nd) (r : List Nd) (b o : Nat), v = x :: r ∧ A = some ⟨b, o, none⟩ ∧ b < w.heap.size ∧ NdAt w b o x ∧ opH v = x.op ∧ nH v = x.n ∧ sH v = x.s ∧ udH v = ⟨x.s, x.t⟩ ∧ 0 < v.length := by
 obtain ⟨x, r, hv, -, -⟩ := ((val_iff v).1 h.ok).2.ne;obtain ⟨b, o, hA, hb, hc⟩ := h.sl (by rw [hv]; simp);have := hc 0 x (by rw [hv]; rfl);rw [Nat.zero_mul, Nat.add_zero] at this;exact ⟨x, r, b, o, hv, hA, hb, this, by rw [hv]; rfl, by rw [hv]; rfl, by rw [hv]; rfl, by rw [hv]; rfl, by rw [hv]; simp⟩
theorem partsR_ok {v : List Nd} (h : valErr v = 0) : (opH v = 5 → partsR v = .ok (partsV v)) ∧ (opH v = 6 → partsR v = .ok ((partsV v).map List.tail)) ∧ (opH v ≠ 5 → opH v ≠ 6 → partsR v = .bad 2) := by
 unfold partsR;rw [if_neg (by simp [h])];exact ⟨fun h => by rw [if_pos h], fun h => by rw [if_neg (by omega), if_pos h], fun h1 h2 => by rw [if_neg h1, if_neg h2]⟩
def BothBack (w : World) (r : Ending) (w' : World) (s t : List Nd) : Prop :=
 (opH s = 5 ∧ opH t = 5 → ∃ Ap cp ms Bp dp ns, r = .returned (.tuple #[.slice Ap ms.length cp, .slice Bp ns.length dp, .nilIface]) ∧ NssAt w' Ap ms ∧ NssAt w' Bp ns ∧ ms.map NsM.e = partsV s ∧ ns.map NsM.e = partsV t ∧ ms.length ≤ 1000 ∧ ns.length ≤ 1000 ∧ RowKit.Below w.heap.size w w') ∧
 (¬ (opH s = 5 ∧ opH t = 5) → r = .returned (.tuple #[.slice none 0 0, .slice none 0 0, .iface 96 (.int .i64 2)]) ∧ RowKit.Below w.heap.size w w')
theorem parts_few {v : List Nd} (h : valErr v = 0) (ho : opH v = 5 ∨ opH v = 6) : (partsV v).length ≤ 1000 := by
 obtain ⟨x, ps, hx, hl, hn, h5, h6, hxo, hpv, hox⟩ := val_cut h ho;rw [hpv];have h1 : ∀ l : List (List Nd), (∀ p ∈ l, p ≠ []) → l.length ≤ l.flatten.length := by
  intro l;induction l with
  | nil => simp
  | cons p r ih =>
   intro h;have a1 := ih (fun q hq => h q (by simp [hq]));have a2 := List.length_pos_iff.2 (h p (by simp));rw [List.flatten_cons, List.length_append, List.length_cons]; omega
 have h2 := h1 ps (fun p hp => by
  rcases hxo with h | h
  · obtain ⟨y, r, e, _⟩ := (h5 h p hp).ne;rw [e]; simp
  · obtain ⟨f, u, e, _⟩ := h6 h p hp;rw [e]; simp)
 rw [hx, List.length_cons] at hl; omega
set_option maxHeartbeats 6400000 in
theorem bag_both (s t : List Nd) (A B : Option Addr) (c d : Nat) (w : World) (hs : ValIn s A c w) (ht : ValIn t B d w) :
 Calls Tryz.prog 152 #[.slice A s.length c, .slice B t.length d] w fun r w' => BothBack w r w' s t := by
 have HVS := Lib.hid (fun W (hW : RowKit.Below w.heap.size w W) => by
  have h := (hs.later hW);have g := val_Check s A c W h.le h.max h.nd h.sl;rw [hs.ok] at g; exact g)
 have HVT := Lib.hid (fun W (hW : RowKit.Below w.heap.size w W) => by
  have h := (ht.later hW);have g := val_Check t B d W h.le h.max h.nd h.sl;rw [ht.ok] at g; exact g)
 have HPS := Lib.hid (fun W (hW : RowKit.Below w.heap.size w W) => by
  have h := (hs.later hW);exact val_Parts s A c W h.le h.max h.nd h.sl)
 have HPT := Lib.hid (fun W (hW : RowKit.Below w.heap.size w W) => by
  have h := (ht.later hW);exact val_Parts t B d W h.le h.max h.nd h.sl)
 have HRS := Lib.hid (partsR_ok hs.ok);have HRT := Lib.hid (partsR_ok ht.ok);have HFS := Lib.hid (fun h => parts_few hs.ok h);have HFT := Lib.hid (fun h => parts_few ht.ok h);obtain ⟨x, xr, bx, ox, hsx, rfl, hbx, ⟨x0, -, -, -⟩, hox, -, -, -, hsl⟩ := hs.head;obtain ⟨y, yr, by_, oy, hty, rfl, hby, ⟨y0, -, -, -⟩, hoy, -, -, -, htl⟩ := ht.head;have HOX := Lib.hid hox;have HOY := Lib.hid hoy;have hsl' : (0 : Int) < (s.length : Int) := by omega
 have htl' : (0 : Int) < (t.length : Int) := by omega
 clear hsx hty hs ht hox hoy hsl htl;have g0 : ∀ W, (Instr.index 268 (.agg #[.slice (some ⟨bx, ox, none⟩) s.length c, .slice (some ⟨by_, oy, none⟩) t.length d]) (.int .i64 0)).run Tryz.prog W = .ok (.slice (some ⟨bx, ox, none⟩) s.length c) W := fun W => by kernel_rfl
 have g1 : ∀ W, (Instr.index 268 (.agg #[.slice (some ⟨bx, ox, none⟩) s.length c, .slice (some ⟨by_, oy, none⟩) t.length d]) (.int .i64 1)).run Tryz.prog W = .ok (.slice (some ⟨by_, oy, none⟩) t.length d) W := fun W => by kernel_rfl
 have E2 : errV 2 = .iface 96 (.int .i64 2) := rfl;by_cases k5 : opH s = 5
 · have tx : (x.op != 5) = false := by rw [← HOX.out]; simp [k5]
   by_cases k6 : opH t = 5
   · have ty : (y.op != 5) = false := (by rw [← HOY.out]; simp [k6]);go_enter Tryz.func152, Tryz.ntmps152
     go_wp2_with fail
     refine wp_loop_rounds 3 ?_;rw [rounds_succ];go_wp2_with fail
     refine (HVS.out w (RowKit.Below.refl _ _)).mono ?_;rintro r w1 ⟨rfl, hb1⟩;have HB1 := Lib.hid hb1;have e0 := (hb1.cell (p := ⟨bx, ox, none⟩) hbx).trans x0;have f0 := (hb1.cell (p := ⟨by_, oy, none⟩) hby).trans y0;clear hb1 x0 y0;go_wp2_with fail
     rw [rounds_succ];go_wp2_with fail
     refine (HVT.out w1 HB1.out).mono ?_;rintro r w2 ⟨rfl, hb2⟩;have HB2 := Lib.hid (HB1.out.trans (hb2.mono HB1.out.size));have e1 := (hb2.cell (p := ⟨bx, ox, none⟩) (by have := HB1.out.size; show bx < _; omega)).trans e0;have f1 := (hb2.cell (p := ⟨by_, oy, none⟩) (by have := HB1.out.size; show by_ < _; omega)).trans f0;clear hb2 e0 f0;go_wp2_with fail
     rw [rounds_succ];go_wp2_with fail
     have hz2 := HB2.out.size;refine (HPS.out w2 HB2.out).mono ?_;rintro r w3 ⟨Ap, cp, ms, rfl, h1, -, -, h4, h5, -, -⟩;rw [HRS.out.1 k5] at h1 ⊢;have HB3 := Lib.hid (HB2.out.trans (h5.mono HB2.out.size));have e2 := (h5.cell (p := ⟨bx, ox, none⟩) (by show bx < _; omega)).trans e1;have f2 := (h5.cell (p := ⟨by_, oy, none⟩) (by show by_ < _; omega)).trans f1;have H1 := Lib.hid h1;have H4 := Lib.hid h4;clear h1 h4 h5 e1 f1;simp only [rsE, errV_zero];go_wp2_with fail
     have hz3 := HB3.out.size;refine (HPT.out w3 HB3.out).mono ?_;rintro r w4 ⟨Bp, dp, ns, rfl, h1, -, -, h4, h5, -, -⟩;rw [HRT.out.1 k6] at h1 ⊢;have HB4 := Lib.hid (HB3.out.trans (h5.mono HB3.out.size));have H44 := Lib.hid (H4.out.later h5);have f3 := (h5.cell (p := ⟨by_, oy, none⟩) (by show by_ < _; omega)).trans f2;have H1b := Lib.hid h1;have H4b := Lib.hid h4;clear h1 h4 h5 f2;simp only [rsE, errV_zero];go_wp2_with fail
     go_ret3
     refine ⟨fun _ => ⟨Ap, cp, ms, Bp, dp, ns, rfl, H44.out, H4b.out, H1.out, H1b.out, ?_, ?_, HB4.out⟩, fun h => absurd ⟨k5, k6⟩ h⟩
     · have := congrArg List.length H1.out;simp only [List.length_map, rsL] at this;have h2 := HFS.out (.inl k5);omega
     · have := congrArg List.length H1b.out;simp only [List.length_map, rsL] at this;have h2 := HFT.out (.inl k6);omega
   · by_cases k66 : opH t = 6
     · have ty : (y.op != 5) = true := (by rw [← HOY.out]; simp [k6]);go_enter Tryz.func152, Tryz.ntmps152
       go_wp2_with fail
       refine wp_loop_rounds 3 ?_;rw [rounds_succ];go_wp2_with fail
       refine (HVS.out w (RowKit.Below.refl _ _)).mono ?_;rintro r w1 ⟨rfl, hb1⟩;have HB1 := Lib.hid hb1;have e0 := (hb1.cell (p := ⟨bx, ox, none⟩) hbx).trans x0;have f0 := (hb1.cell (p := ⟨by_, oy, none⟩) hby).trans y0;clear hb1 x0 y0;go_wp2_with fail
       rw [rounds_succ];go_wp2_with fail
       refine (HVT.out w1 HB1.out).mono ?_;rintro r w2 ⟨rfl, hb2⟩;have HB2 := Lib.hid (HB1.out.trans (hb2.mono HB1.out.size));have e1 := (hb2.cell (p := ⟨bx, ox, none⟩) (by have := HB1.out.size; show bx < _; omega)).trans e0;have f1 := (hb2.cell (p := ⟨by_, oy, none⟩) (by have := HB1.out.size; show by_ < _; omega)).trans f0;clear hb2 e0 f0;go_wp2_with fail
       rw [rounds_succ];go_wp2_with fail
       have hz2 := HB2.out.size;refine (HPS.out w2 HB2.out).mono ?_;rintro r w3 ⟨Ap, cp, ms, rfl, h1, -, -, h4, h5, -, -⟩;rw [HRS.out.1 k5] at h1 ⊢;have HB3 := Lib.hid (HB2.out.trans (h5.mono HB2.out.size));have e2 := (h5.cell (p := ⟨bx, ox, none⟩) (by show bx < _; omega)).trans e1;have f2 := (h5.cell (p := ⟨by_, oy, none⟩) (by show by_ < _; omega)).trans f1;have H1 := Lib.hid h1;have H4 := Lib.hid h4;clear h1 h4 h5 e1 f1;simp only [rsE, errV_zero];go_wp2_with fail
       have hz3 := HB3.out.size;refine (HPT.out w3 HB3.out).mono ?_;rintro r w4 ⟨Bp, dp, ns, rfl, h1, -, -, h4, h5, -, -⟩;rw [HRT.out.2.1 k66] at h1 ⊢;have HB4 := Lib.hid (HB3.out.trans (h5.mono HB3.out.size));have H44 := Lib.hid (H4.out.later h5);have f3 := (h5.cell (p := ⟨by_, oy, none⟩) (by show by_ < _; omega)).trans f2;have H1b := Lib.hid h1;have H4b := Lib.hid h4;clear h1 h4 h5 f2;simp only [rsE, errV_zero];go_wp2_with fail
       go_ret3
       exact ⟨fun h => absurd h (fun h => k6 h.2), fun _ => ⟨rfl, HB4.out⟩⟩
     · have ty : (y.op != 5) = true := (by rw [← HOY.out]; simp [k6]);go_enter Tryz.func152, Tryz.ntmps152
       go_wp2_with fail
       refine wp_loop_rounds 3 ?_;rw [rounds_succ];go_wp2_with fail
       refine (HVS.out w (RowKit.Below.refl _ _)).mono ?_;rintro r w1 ⟨rfl, hb1⟩;have HB1 := Lib.hid hb1;have e0 := (hb1.cell (p := ⟨bx, ox, none⟩) hbx).trans x0;have f0 := (hb1.cell (p := ⟨by_, oy, none⟩) hby).trans y0;clear hb1 x0 y0;go_wp2_with fail
       rw [rounds_succ];go_wp2_with fail
       refine (HVT.out w1 HB1.out).mono ?_;rintro r w2 ⟨rfl, hb2⟩;have HB2 := Lib.hid (HB1.out.trans (hb2.mono HB1.out.size));have e1 := (hb2.cell (p := ⟨bx, ox, none⟩) (by have := HB1.out.size; show bx < _; omega)).trans e0;have f1 := (hb2.cell (p := ⟨by_, oy, none⟩) (by have := HB1.out.size; show by_ < _; omega)).trans f0;clear hb2 e0 f0;go_wp2_with fail
       rw [rounds_succ];go_wp2_with fail
       have hz2 := HB2.out.size;refine (HPS.out w2 HB2.out).mono ?_;rintro r w3 ⟨Ap, cp, ms, rfl, h1, -, -, h4, h5, -, -⟩;rw [HRS.out.1 k5] at h1 ⊢;have HB3 := Lib.hid (HB2.out.trans (h5.mono HB2.out.size));have e2 := (h5.cell (p := ⟨bx, ox, none⟩) (by show bx < _; omega)).trans e1;have f2 := (h5.cell (p := ⟨by_, oy, none⟩) (by show by_ < _; omega)).trans f1;have H1 := Lib.hid h1;have H4 := Lib.hid h4;clear h1 h4 h5 e1 f1;simp only [rsE, errV_zero];go_wp2_with fail
       have hz3 := HB3.out.size;refine (HPT.out w3 HB3.out).mono ?_;rintro r w4 ⟨Bp, dp, ns, rfl, h1, -, -, h4, h5, -, -⟩;rw [HRT.out.2.2 k6 k66] at h1 ⊢;have HB4 := Lib.hid (HB3.out.trans (h5.mono HB3.out.size));have H44 := Lib.hid (H4.out.later h5);have f3 := (h5.cell (p := ⟨by_, oy, none⟩) (by show by_ < _; omega)).trans f2;have H1b := Lib.hid h1;have H4b := Lib.hid h4;clear h1 h4 h5 f2;simp only [rsE, E2];go_wp2_with fail
       go_ret3
       exact ⟨fun h => absurd h (fun h => k6 h.2), fun _ => ⟨rfl, HB4.out⟩⟩
 · by_cases k55 : opH s = 6
   · have tx : (x.op != 5) = true := (by rw [← HOX.out]; simp [k5]);go_enter Tryz.func152, Tryz.ntmps152
     go_wp2_with fail
     refine wp_loop_rounds 3 ?_;rw [rounds_succ];go_wp2_with fail
     refine (HVS.out w (RowKit.Below.refl _ _)).mono ?_;rintro r w1 ⟨rfl, hb1⟩;have HB1 := Lib.hid hb1;have e0 := (hb1.cell (p := ⟨bx, ox, none⟩) hbx).trans x0;have f0 := (hb1.cell (p := ⟨by_, oy, none⟩) hby).trans y0;clear hb1 x0 y0;go_wp2_with fail
     rw [rounds_succ];go_wp2_with fail
     refine (HVT.out w1 HB1.out).mono ?_;rintro r w2 ⟨rfl, hb2⟩;have HB2 := Lib.hid (HB1.out.trans (hb2.mono HB1.out.size));have e1 := (hb2.cell (p := ⟨bx, ox, none⟩) (by have := HB1.out.size; show bx < _; omega)).trans e0;have f1 := (hb2.cell (p := ⟨by_, oy, none⟩) (by have := HB1.out.size; show by_ < _; omega)).trans f0;clear hb2 e0 f0;go_wp2_with fail
     rw [rounds_succ];go_wp2_with fail
     have hz2 := HB2.out.size;refine (HPS.out w2 HB2.out).mono ?_;rintro r w3 ⟨Ap, cp, ms, rfl, h1, -, -, h4, h5, -, -⟩;rw [HRS.out.2.1 k55] at h1 ⊢;have HB3 := Lib.hid (HB2.out.trans (h5.mono HB2.out.size));have e2 := (h5.cell (p := ⟨bx, ox, none⟩) (by show bx < _; omega)).trans e1;have f2 := (h5.cell (p := ⟨by_, oy, none⟩) (by show by_ < _; omega)).trans f1;have H1 := Lib.hid h1;have H4 := Lib.hid h4;clear h1 h4 h5 e1 f1;simp only [rsE, errV_zero];go_wp2_with fail
     go_ret3
     exact ⟨fun h => absurd h (fun h => k5 h.1), fun _ => ⟨rfl, HB3.out⟩⟩
   · have tx : (x.op != 5) = true := (by rw [← HOX.out]; simp [k5]);go_enter Tryz.func152, Tryz.ntmps152
     go_wp2_with fail
     refine wp_loop_rounds 3 ?_;rw [rounds_succ];go_wp2_with fail
     refine (HVS.out w (RowKit.Below.refl _ _)).mono ?_;rintro r w1 ⟨rfl, hb1⟩;have HB1 := Lib.hid hb1;have e0 := (hb1.cell (p := ⟨bx, ox, none⟩) hbx).trans x0;have f0 := (hb1.cell (p := ⟨by_, oy, none⟩) hby).trans y0;clear hb1 x0 y0;go_wp2_with fail
     rw [rounds_succ];go_wp2_with fail
     refine (HVT.out w1 HB1.out).mono ?_;rintro r w2 ⟨rfl, hb2⟩;have HB2 := Lib.hid (HB1.out.trans (hb2.mono HB1.out.size));have e1 := (hb2.cell (p := ⟨bx, ox, none⟩) (by have := HB1.out.size; show bx < _; omega)).trans e0;have f1 := (hb2.cell (p := ⟨by_, oy, none⟩) (by have := HB1.out.size; show by_ < _; omega)).trans f0;clear hb2 e0 f0;go_wp2_with fail
     rw [rounds_succ];go_wp2_with fail
     have hz2 := HB2.out.size;refine (HPS.out w2 HB2.out).mono ?_;rintro r w3 ⟨Ap, cp, ms, rfl, h1, -, -, h4, h5, -, -⟩;rw [HRS.out.2.2 k5 k55] at h1 ⊢;have HB3 := Lib.hid (HB2.out.trans (h5.mono HB2.out.size));have e2 := (h5.cell (p := ⟨bx, ox, none⟩) (by show bx < _; omega)).trans e1;have f2 := (h5.cell (p := ⟨by_, oy, none⟩) (by show by_ < _; omega)).trans f1;have H1 := Lib.hid h1;have H4 := Lib.hid h4;clear h1 h4 h5 e1 f1;simp only [rsE, errV_zero, E2];go_wp2_with fail
     go_ret3
     exact ⟨fun h => absurd h (fun h => k5 h.1), fun _ => ⟨rfl, HB3.out⟩⟩
end Go.Proofs.YtpheiojmcafolaaGreatDoor
namespace Go.Proofs.YtpheiojmcafolaaGreatDoor
set_option maxRecDepth 100000
open Go.RowKit Go.Sort
def BoolBack (w : World) (r : Ending) (w' : World) (q : Rs Bool) : Prop := r = .returned (.tuple #[.bool (rsB q), errV (rsE q)]) ∧ RowKit.Below w.heap.size w w'
theorem any_map_e (ms : List NsM) (v : List Nd) : (ms.any fun y => decide (y.e = v)) = ((ms.map NsM.e).any fun p => decide (p = v)) := by rw [List.any_map]; rfl
theorem any_mem_e (ms : List NsM) (v : List Nd) : (ms.any fun y => decide (y.e = v)) = decide (v ∈ ms.map NsM.e) := by
 rw [Bool.eq_iff_iff]; simp
set_option maxHeartbeats 3200000 in
theorem bag_Has (s t : List Nd) (A B : Option Addr) (c d : Nat) (w : World) (hs : ValIn s A c w) (ht : ValIn t B d w) :
 Calls Tryz.prog 121 #[.slice A s.length c, .slice B t.length d] w fun r w' => BoolBack w r w' (bagHas s t) := by
 have HVS := Lib.hid (fun W (hW : RowKit.Below w.heap.size w W) => by
  have h := (hs.later hW);have g := val_Check s A c W h.le h.max h.nd h.sl;rw [hs.ok] at g; exact g)
 have HVT := Lib.hid (fun W (hW : RowKit.Below w.heap.size w W) => by
  have h := (ht.later hW);have g := val_Check t B d W h.le h.max h.nd h.sl;rw [ht.ok] at g; exact g)
 have HT := Lib.hid ht;obtain ⟨q, hq⟩ : ∃ q, bagHas s t = q := ⟨_, rfl⟩;rw [hq];have HQ : Hid (q = if opH s = 5 then .ok ((partsV s).any fun p => decide (p = t)) else .bad 2) := by
  show _ = _; rw [← hq]; unfold bagHas; rw [if_neg (by simp [hs.ok]), if_neg (by simp [ht.ok])]
 have HPS := Lib.hid (fun W (hW : RowKit.Below w.heap.size w W) => by
  have h := (hs.later hW);exact val_Parts s A c W h.le h.max h.nd h.sl)
 have HRS := Lib.hid (partsR_ok hs.ok);have HFS := Lib.hid (fun h => parts_few hs.ok h);obtain ⟨x, xr, bx, ox, hsx, rfl, hbx, ⟨x0, -, -, -⟩, hox, -, -, -, hsl⟩ := hs.head;have hsl' : (0 : Int) < (s.length : Int) := by omega
 have HOX := Lib.hid hox;clear hs ht hq hsx hox hsl;by_cases k5 : opH s = 5
 · have tx : (x.op != 5) = false := by rw [← HOX.out]; simp [k5]
   have HR : Hid (q = .ok ((partsV s).any fun p => decide (p = t))) := by show _ = _; rw [HQ.out, if_pos k5]
   have K5 := Lib.hid k5;clear k5 HQ;go_enter Tryz.func121, Tryz.ntmps121
   go_wp2_with fail
   refine (HVS.out w (RowKit.Below.refl _ _)).mono ?_;rintro r w1 ⟨rfl, hb1⟩;have HB1 := Lib.hid hb1;have e0 := (hb1.cell (p := ⟨bx, ox, none⟩) hbx).trans x0;clear hb1 x0;go_wp2_with fail
   refine (HVT.out w1 HB1.out).mono ?_;rintro r w2 ⟨rfl, hb2⟩;have HB2 := Lib.hid (HB1.out.trans (hb2.mono HB1.out.size));have e1 := (hb2.cell (p := ⟨bx, ox, none⟩) (by have := HB1.out.size; show bx < _; omega)).trans e0;clear hb2 e0;go_wp2_with fail
   refine (HPS.out w2 HB2.out).mono ?_;rintro r w3 ⟨Ap, cp, ms, rfl, h1, -, -, h4, h5, -, -⟩;rw [HRS.out.1 K5.out] at h1 ⊢;have HB3 := Lib.hid (HB2.out.trans (h5.mono HB2.out.size));have hml : ms.length ≤ 1000 := by
    have := congrArg List.length h1;simp only [List.length_map, rsL] at this;have h2 := HFS.out (.inl K5.out);omega
   have HH := Lib.hid (bag_has t B d ms Ap cp w3 (by omega) h4 (HT.out.later HB3.out).sl);have HE : Hid ((ms.any fun y => decide (y.e = t)) = ((partsV s).any fun p => decide (p = t))) := by show _ = _; rw [any_map_e, h1]; rfl
   clear h1 h4 h5 e1;simp only [rsE, errV_zero];go_wp2_with fail
   refine HH.out.mono ?_;rintro r w4 ⟨rfl, hb4⟩;have hw4 := HB3.out.trans (hb4.mono HB3.out.size);clear hb4;go_wp2_with fail
   go_ret2
   rw [HR.out, ← HE.out];exact ⟨rfl, hw4⟩
 · have tx : (x.op != 5) = true := by rw [← HOX.out]; simp [k5]
   have HR : Hid (q = .bad 2) := by show _ = _; rw [HQ.out, if_neg k5]
   clear k5 HQ;go_enter Tryz.func121, Tryz.ntmps121
   go_wp2_with fail
   refine (HVS.out w (RowKit.Below.refl _ _)).mono ?_;rintro r w1 ⟨rfl, hb1⟩;have HB1 := Lib.hid hb1;have e0 := (hb1.cell (p := ⟨bx, ox, none⟩) hbx).trans x0;clear hb1 x0;go_wp2_with fail
   refine (HVT.out w1 HB1.out).mono ?_;rintro r w2 ⟨rfl, hb2⟩;have HB2 := Lib.hid (HB1.out.trans (hb2.mono HB1.out.size));have e1 := (hb2.cell (p := ⟨bx, ox, none⟩) (by have := HB1.out.size; show bx < _; omega)).trans e0;clear hb2 e0;go_wp2_with fail
   go_ret2
   rw [HR.out];exact ⟨rfl, HB2.out⟩
theorem kept_all (ms ns : List NsM) : (((ns.filter (fun y => ms.any (fun q => decide (q.e = y.e)))).length : Int) == (ns.length : Int)) = ((ns.map NsM.e).all fun p => decide (p ∈ ms.map NsM.e)) := by
 rw [Bool.eq_iff_iff];simp only [beq_iff_eq, List.all_eq_true, List.mem_map, forall_exists_index, and_imp, forall_apply_eq_imp_iff₂];constructor
 · intro h y hy;have h1 : (ns.filter (fun y => ms.any (fun q => decide (q.e = y.e)))).length = ns.length := by omega
   have := List.length_filter_eq_length_iff.1 h1 y hy;rw [any_mem_e] at this;simpa using this
 · intro h;have : (ns.filter (fun y => ms.any (fun q => decide (q.e = y.e)))).length = ns.length := List.length_filter_eq_length_iff.2 (fun y hy => by
    rw [any_mem_e];simpa using h y hy)
   omega
theorem some_any (ms ns : List NsM) : (ns.any fun y => ms.any (fun q => decide (q.e = y.e))) = ((ns.map NsM.e).any fun p => decide (p ∈ ms.map NsM.e)) := by
 rw [List.any_map];congr 1
 funext y
 rw [any_mem_e]; rfl
theorem bagTwo_of (f : List (List Nd) → List (List Nd) → Bool) {s t : List Nd} (hs : valErr s = 0) (ht : valErr t = 0) : bagTwo f s t = if opH s = 5 ∧ opH t = 5 then .ok (f (partsV s) (partsV t)) else .bad 2 := by
 unfold bagTwo; rw [if_neg (by simp [hs]), if_neg (by simp [ht])]
set_option maxHeartbeats 3200000 in
theorem bag_All (s t : List Nd) (A B : Option Addr) (c d : Nat) (w : World) (hs : ValIn s A c w) (ht : ValIn t B d w) :
 Calls Tryz.prog 122 #[.slice A s.length c, .slice B t.length d] w fun r w' => BoolBack w r w' (bagAll s t) := by
 have HB := Lib.hid (bag_both s t A B c d w hs ht);have HQ : Hid (bagAll s t = if opH s = 5 ∧ opH t = 5 then .ok ((partsV t).all fun p => decide (p ∈ partsV s)) else .bad 2) := bagTwo_of _ hs.ok ht.ok;clear hs ht;by_cases k5 : opH s = 5 ∧ opH t = 5
 · rw [HQ.out, if_pos k5];have K5 := Lib.hid k5;clear k5;obtain ⟨q, hq⟩ : ∃ q, ((partsV t).all fun p => decide (p ∈ partsV s)) = q := ⟨_, rfl⟩;rw [hq];have HQQ := Lib.hid hq;clear hq HQ;go_enter Tryz.func122, Tryz.ntmps122
   go_wp2_with fail
   refine HB.out.mono ?_;rintro r w1 hpost;obtain ⟨Ap, cp, ms, Bp, dp, ns, rfl, h1, h2, h3, h4, h5, h6, h7⟩ := hpost.1 K5.out;have HK := Lib.hid (bag_kept ms Ap cp ns Bp dp w1 (by omega) h6 h1 h2);have HE : Hid ((((ns.filter (fun y => ms.any (fun q => decide (q.e = y.e)))).length : Int) == (ns.length : Int)) = q) := by show _ = _; rw [kept_all, h3, h4, HQQ.out]
   have HB1 := Lib.hid h7;clear hpost h1 h2 h3 h4 h7;generalize (ns.filter (fun y => ms.any (fun q => decide (q.e = y.e)))).length = L at HK HE;go_wp2_with fail
   refine HK.out.mono ?_;rintro r w2 ⟨Ak, ck, rfl, hb2⟩;have hw2 := HB1.out.trans (hb2.mono HB1.out.size);clear hb2;go_wp2_with fail
   go_ret2
   have e := HE.out;refine ⟨?_, hw2⟩;rw [← e]; rfl
 · rw [HQ.out, if_neg k5];have K5 := Lib.hid k5;clear k5 HQ;go_enter Tryz.func122, Tryz.ntmps122
   go_wp2_with fail
   refine HB.out.mono ?_;rintro r w1 hpost;obtain ⟨rfl, h7⟩ := hpost.2 K5.out;have HB1 := Lib.hid h7;clear hpost h7;go_wp2_with fail
   go_ret2
   exact ⟨rfl, HB1.out⟩
set_option maxHeartbeats 3200000 in
theorem bag_Any (s t : List Nd) (A B : Option Addr) (c d : Nat) (w : World) (hs : ValIn s A c w) (ht : ValIn t B d w) :
 Calls Tryz.prog 123 #[.slice A s.length c, .slice B t.length d] w fun r w' => BoolBack w r w' (bagAny s t) := by
 have HB := Lib.hid (bag_both s t A B c d w hs ht);have HQ : Hid (bagAny s t = if opH s = 5 ∧ opH t = 5 then .ok ((partsV t).any fun p => decide (p ∈ partsV s)) else .bad 2) := bagTwo_of _ hs.ok ht.ok;clear hs ht;by_cases k5 : opH s = 5 ∧ opH t = 5
 · rw [HQ.out, if_pos k5];have K5 := Lib.hid k5;clear k5;obtain ⟨q, hq⟩ : ∃ q, ((partsV t).any fun p => decide (p ∈ partsV s)) = q := ⟨_, rfl⟩;rw [hq];have HQQ := Lib.hid hq;clear hq HQ;go_enter Tryz.func123, Tryz.ntmps123
   go_wp2_with fail
   refine HB.out.mono ?_;rintro r w1 hpost;obtain ⟨Ap, cp, ms, Bp, dp, ns, rfl, h1, h2, h3, h4, h5, h6, h7⟩ := hpost.1 K5.out;have HK := Lib.hid (hasb_contains ms Ap cp w1 h1 (by omega) ns Bp dp w1 (RowKit.Below.refl _ _) (by omega) h2);have HE : Hid ((ns.any fun y => ms.any (fun q => decide (q.e = y.e))) = q) := by show _ = _; rw [some_any, h3, h4, HQQ.out]
   rw [HE.out] at HK;have HB1 := Lib.hid h7;clear hpost h1 h2 h3 h4 h7 HE;go_wp2_with fail
   refine HK.out.mono ?_;rintro r w2 ⟨rfl, hb2⟩;have hw2 := HB1.out.trans (hb2.mono HB1.out.size);clear hb2;go_wp2_with fail
   go_ret2
   exact ⟨rfl, hw2⟩
 · rw [HQ.out, if_neg k5];have K5 := Lib.hid k5;clear k5 HQ;go_enter Tryz.func123, Tryz.ntmps123
   go_wp2_with fail
   refine HB.out.mono ?_;rintro r w1 hpost;obtain ⟨rfl, h7⟩ := hpost.2 K5.out;have HB1 := Lib.hid h7;clear hpost h7;go_wp2_with fail
   go_ret2
   exact ⟨rfl, HB1.out⟩
end Go.Proofs.YtpheiojmcafolaaGreatDoor
namespace Go.Proofs.YtpheiojmcafolaaGreatDoor
def NdI (e : List Nd) : Prop := ∀ x ∈ e, I64 x.n
def GoodI (v : List Nd) : Prop := v = v ∧ NdI v
theorem head_i {x : Nd} {r : List Nd} (h : valErr (x :: r) = 0) (ho : x.op = 5 ∨ x.op = 6) : I64 x.n := by
 obtain ⟨y, ps, e, _, hn, _, _, _, hp, _⟩ := val_cut h ho;have := parts_few h ho;rw [hp] at this;injection e with e _
 rw [e, hn];exact ⟨by omega, by omega⟩
theorem bN_goodI (b : Bool) : GoodI [bN b] := ⟨rfl, by intro x hx; simp at hx; subst hx; cases b <;> exact ⟨by decide, by decide⟩⟩
theorem nN_goodI {n : Int} (h : I64 n) : GoodI [nN n] := ⟨rfl, by intro x hx; simp at hx; subst hx; exact h⟩
theorem numR_i {op a b n : Int} (h : numR op a b = .ok n) : I64 n := by
 unfold numR at h;have key : ∀ m : Int, (if inR m = true then (Rs.ok m : Rs Int) else .bad 5) = .ok n → I64 n := by
  intro m hm;split at hm
  · injection hm with hm; subst hm; rename_i hr; unfold inR at hr; simp only [Bool.and_eq_true, decide_eq_true_eq] at hr; exact hr
  · cases hm
 split at h
 · exact key _ h
 · split at h
   · exact key _ h
   · split at h
     · exact key _ h
     · cases h
theorem eN_goodI (u : Ud) : GoodI [eN u] := ⟨rfl, by intro x hx; simp at hx; subst hx; exact (⟨by decide, by decide⟩ : I64 0)⟩
theorem NdI.sub {a b : List Nd} (h : NdI b) (hs : ∀ x ∈ a, x ∈ b) : NdI a := fun x hx => h x (hs x hx)
theorem setOfP_goodI {vs : List (List Nd)} {v : List Nd} (hv : ∀ p ∈ vs, NdI p) (h : setR vs = .ok v) : GoodI v := by
 have hvx := setR_vx h;unfold setR at h;split at h
 · cases h
 · rename_i hk;injection h with h
   subst h;unfold setOfP at hk hvx ⊢;split at hk
   · rename_i h1; exact absurd h1 hk
   · rename_i h1;rw [if_neg h1] at hvx ⊢;split at hk
     · exact absurd (by decide) hk
     · rename_i h2;rw [if_neg h2] at hvx ⊢;unfold setNodes at hvx;refine ⟨rfl, fun x hx => ?_⟩;unfold setNodes at hx;rcases List.mem_cons.1 hx with rfl | hx
       · exact head_i hvx (.inl rfl)
       · obtain ⟨p, hp, hxp⟩ := List.mem_flatten.1 hx;exact hv p (mem_setParts hp) x hxp
theorem recR_goodI {fs : List (ByteArray × List Nd)} {v : List Nd} (hv : ∀ f ∈ fs, NdI f.2) (h : recR fs = .ok v) : GoodI v := by
 have hvx := recR_vx h;unfold recR at h;split at h
 · cases h
 · split at h
   · cases h
   · injection h with h
     subst h;refine ⟨rfl, fun x hx => ?_⟩;unfold recNodes at hx hvx;rcases List.mem_cons.1 hx with rfl | hx
     · exact head_i hvx (.inr rfl)
     · obtain ⟨p, hp, hxp⟩ := List.mem_flatten.1 hx;have hp' := (sortN_perm _).mem_iff.1 hp;obtain ⟨f, hf, rfl⟩ := List.mem_map.1 hp';rcases List.mem_cons.1 hxp with rfl | hxp
       · exact (⟨by decide, by decide⟩ : I64 0)
       · exact hv f hf x hxp
theorem vx_goodI {v : List Nd} (_h : Vx v) (hok : NdI v) : GoodI v := ⟨rfl, hok⟩
theorem getR_goodI {v w : List Nd} {s : ByteArray} (hv : NdI v) (h : getR v s = .ok w) : GoodI w := by
 unfold getR at h;split at h
 · cases h
 · rename_i h0;have h0' : valErr v = 0 := Classical.not_not.1 h0;split at h
   · rename_i h6;split at h
     · rename_i p hp;injection h with h
       subst h;have hm := List.mem_of_find?_eq_some hp;obtain ⟨f, u, rfl, _, hu⟩ := vx_rec_parts h0' h6 p hm;exact vx_goodI hu (hv.sub fun x hx => parts_sub hm x (List.mem_cons_of_mem _ hx))
     · cases h
   · cases h
structure EsI (es : List En) : Prop where
 at_ : ∀ e ∈ es, GoodI e.at_
structure RqI (q : Rq) : Prop where
 ctx : GoodI q.ctx
theorem named_goodI {q : Rq} (hq : RqI q) {s : List UInt8} {v : List Nd} (h : namedR q s = .ok v) : GoodI v := by
 unfold namedR at h;split at h
 · injection h with h; subst h; exact eN_goodI q.who
 · split at h
   · injection h with h; subst h; exact eN_goodI q.act
   · split at h
     · injection h with h; subst h; exact eN_goodI q.what
     · split at h
       · injection h with h; subst h; exact hq.ctx
       · cases h
theorem single_goodI {es : List En} (hes : EsI es) {x : Nd} {v w : List Nd} (hv : GoodI v) (h : singleR es x v = .ok w) : GoodI w := by
 unfold singleR at h;split at h
 · obtain ⟨u, _, h2⟩ := bind_ok h; injection h2 with h2; subst h2; exact bN_goodI _
 · split at h
   · obtain ⟨u, _, h2⟩ := bind_ok h; obtain ⟨n, hn, h3⟩ := bind_ok h2; injection h3 with h3; subst h3; exact nN_goodI (numR_i hn)
   · split at h
     · obtain ⟨u, _, h2⟩ := bind_ok h; obtain ⟨n, _, h3⟩ := bind_ok h2; injection h3 with h3; subst h3; exact bN_goodI _
     · split at h
       · obtain ⟨u, _, h2⟩ := bind_ok h; injection h2 with h2; subst h2; exact bN_goodI _
       · obtain ⟨r, h1, h2⟩ := bind_ok h;cases r with
         | none =>
          simp only at h2;split at h2
          · injection h2 with h2; subst h2; exact bN_goodI _
          · cases h2
         | some r =>
          simp only at h2;have hr : NdI r := by
           unfold recOf at h1;split at h1
           · injection h1 with h1; injection h1 with h1; subst h1; exact hv.2
           · split at h1
             · injection h1 with h1
               obtain ⟨e, he, h1⟩ := Option.map_eq_some_iff.1 h1;subst h1;exact (hes.at_ e (List.mem_of_find?_eq_some he)).2
             · cases h1
          split at h2
          · split at h2 <;> (injection h2 with h2; subst h2; exact bN_goodI _)
          · exact getR_goodI hr h2
theorem double_goodI {es : List En} {op : Int} {a b w : List Nd} (h : doubleR es op a b = .ok w) : GoodI w := by
 unfold doubleR at h;split at h
 · injection h with h; subst h; exact bN_goodI _
 · split at h
   · obtain ⟨u, _, h2⟩ := bind_ok h; injection h2 with h2; subst h2; exact bN_goodI _
   · split at h
     · obtain ⟨u, _, h2⟩ := bind_ok h; injection h2 with h2; subst h2; exact bN_goodI _
     · split at h
       · obtain ⟨u, _, h2⟩ := bind_ok h; injection h2 with h2; subst h2; exact bN_goodI _
       · split at h
         · obtain ⟨u, _, h2⟩ := bind_ok h; injection h2 with h2; subst h2; exact bN_goodI _
         · obtain ⟨u, _, h2⟩ := bind_ok h;obtain ⟨u', _, h3⟩ := bind_ok h2;split at h3
           · injection h3 with h3; subst h3; exact bN_goodI _
           · split at h3
             · injection h3 with h3; subst h3; exact bN_goodI _
             · obtain ⟨n, hn, h4⟩ := bind_ok h3; injection h4 with h4; subst h4; exact nN_goodI (numR_i hn)
theorem evE_goodI {es : List En} {q : Rq} (hes : EsI es) (hq : RqI q) : ∀ (k : Nat) (xs : List Nd) {v : List Nd}, NdI xs → evE es q k xs = .ok v → GoodI v
 | 0, xs, v, _, h => by cases h
 | k + 1, [], v, _, h => by cases h
 | k + 1, x :: body, v, hx, h => by
  have hxx : NdI [x] := hx.sub (by intro y hy; simp at hy; simp [hy]);have hb : NdI body := hx.sub fun y hy => List.mem_cons_of_mem _ hy;have hkid : ∀ p ∈ kidsGo body.length body, NdI p := fun p hp => hb.sub (kids_sub _ _ p hp);have ih := fun p v (hp : NdI p) (h : evE es q k p = .ok v) => evE_goodI hes hq k p hp h;rw [evE] at h;split at h
  · injection h with h; subst h; exact ⟨rfl, hxx⟩
  · split at h
    · exact named_goodI hq h
    · generalize kidsGo body.length body = ps at h hkid;split at h
      · obtain ⟨vs, h1, h2⟩ := bind_ok h;refine setOfP_goodI (fun p hp => ?_) h2;obtain ⟨y, hy, e⟩ := List.mem_map.1 ((allR_ok h1).2 p hp);exact (ih y p (hkid y hy) e).2
      · obtain ⟨vs, h1, h2⟩ := bind_ok h;refine recR_goodI (fun f hf => ?_) h2;have hm := List.of_mem_zip hf;obtain ⟨y, hy, e⟩ := List.mem_map.1 ((allR_ok h1).2 f.2 hm.2);exact (ih y.tail f.2 ((hkid y hy).sub fun z hz => List.mem_of_mem_tail hz) e).2
      · rename_i a h5' h6';obtain ⟨u, h1, h2⟩ := bind_ok h;exact single_goodI hes (ih a u (hkid a (by simp)) h1) h2
      · rename_i a b h5' h6';split at h
        · unfold eitherR at h;obtain ⟨u, h1, h2⟩ := bind_ok h;split at h2
          · injection h2 with h2; subst h2; exact ih a _ (hkid a (by simp)) (must_ok h1).1
          · exact ih b v (hkid b (by simp)) (must_ok h2).1
        · obtain ⟨u, h1, h2⟩ := bind_ok h;obtain ⟨u', h3, h4⟩ := bind_ok h2;exact double_goodI h4
      · rename_i c a b h5' h6';unfold choiceR at h;obtain ⟨u, h1, h2⟩ := bind_ok h;split at h2
        · exact ih a v (hkid a (by simp)) h2
        · exact ih b v (hkid b (by simp)) h2
      · cases h
end Go.Proofs.YtpheiojmcafolaaGreatDoor
