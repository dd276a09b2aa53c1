/-
  THE WALKS: the reader of a value's nodes, at a set.
  THE WALKS: the reader of a value's nodes, at a record.
  THE WALKS: the deferred closure of val.Check. THE WALKS: val.Check: for any nodes: what is wrong with a value.
  THE WALKS of package tree: parts. THE WALKS: tree.shaped.
-/
import Derived.Test.YtbggbcnfkcadjaaGreatDoorPf02
import Derived.Test.YtbggbcnfkcadjaaGreatDoorPf06
import Derived.Test.YtbggbcnfkcadjaaGreatDoorPf01
namespace Go.Proofs.YtbggbcnfkcadjaaGreatDoor
open Go.RowKit
def PPost (e : List Nd) (v : Option Nat) (i rb : Nat) (A : Option Addr) (c : Nat) (w : World) (r : Ending) (w' : World) : Prop :=
 (∀ j, v = some j → ∃ A' c', r = .returned (.slice A' (piece e i j).length c') ∧ NdSl w' rb A' (piece e i j) ∧ Blk w' rb 186 (rdr A e.length c j) ∧ Only w.heap.size rb w w') ∧
 (v = none → r = .panicked wrongV ∧ Only w.heap.size rb w w')
theorem PPost.no {e : List Nd} {v : Option Nat} {i rb : Nat} {A : Option Addr} {c : Nat} {w w' : World} (hv : v = none) (ho : Only w.heap.size rb w w') : PPost e v i rb A c w (.panicked wrongV) w' :=
 ⟨fun j hj => (by rw [hv] at hj; cases hj), fun _ => ⟨rfl, ho⟩⟩
def LastIs (wr : World) (rb : Nat) (k : Nat) (last : Option (List Nd)) (v : Value) : Prop :=
 match last with
 | none => k = 0
 | some l => 0 < k ∧ l.length ≤ 9223372036854775807 ∧ ∃ A c, v = .slice A l.length c ∧ NdSl wr rb A l
set_option maxRecDepth 100000 in
set_option maxHeartbeats 4000000 in
theorem part_set (e : List Nd) (f i : Nat) (x : Nd) (hx : e[i]? = some x) (hsh : shapedV x = true) (hop : x.op = 5) (ih : ∀ f', f' ≤ f → ∀ i', PartOk e f' i') : PartOk e (f + 1) i := by
 intro w rb A c hf hi hc hcm hok hblk hsl
 have hrb := hblk.lt
 have k0 : w.cell? ⟨rb, 0, none⟩ = some (.slice A e.length c) := hblk.cell 0
 have k1 : w.cell? ⟨rb, 1, none⟩ = some (.int .i64 i) := hblk.cell 1
 have z1 : w.frozen? ⟨rb, 1, none⟩ = false := hblk.frozen 1
 have hil : i < e.length := (List.getElem?_eq_some_iff.1 hx).1
 obtain ⟨b, o, rfl, hb, hcs⟩ := hsl.at_ hil
 obtain ⟨d0, d1, d2, d3⟩ := hcs i x hx
 obtain ⟨hxs, hxt⟩ := hok x (List.mem_of_getElem? hx)
 have hbw : b < w.heap.size := by omega
 have HX := Lib.hid hx
 have HB := Lib.hid hblk
 have HS := Lib.hid hsl
 have HOK := Lib.hid hok
 clear hx hblk hsl hcs hok
 have HV : Hid (vGo e (f + 1) .one i = vGo e f (.set x.n.toNat none) (i + 1)) := by
   have hn := HX.out
   show _ = _
   simp [vGo, hn, hsh, hop]
 have hxn : 0 ≤ x.n := by simp [shapedV, hop] at hsh; omega
 obtain ⟨N, hN⟩ := Int.eq_ofNat_of_zero_le hxn
 have HN := Lib.hid hN
 have HI := Lib.hid ih
 have p5 : (x.op == 5) = true := by simp [hop]
 clear hop ih hN
 rw [show x.n = (N : Int) from HN.out] at d1
 have hsh2 : shapedV ⟨x.op, (N : Int), x.s, x.t⟩ = true := by have := HN.out; simp only [← this]; exact hsh
 have hdl : decide (e.length ≤ i) = false := by simp; omega
 suffices hw : Calls Tryz.prog 142 #[.pointer (some ⟨rb, 0, none⟩)] w (PPost e (vGo e (f + 1) .one i) i rb (some ⟨b, o, none⟩) c w) from
   ⟨fun j hj => hw.mono fun _ _ p => p.1 j hj, fun hn => hw.mono fun _ _ p => p.2 hn⟩
 go_enter Tryz.func142, Tryz.ntmps142
 go_wp2_with (go_at_call 161; refine (val_shaped x.op _ x.s x.t _ hxs hxt).mono ?_; rintro r w1 ⟨rfl, hb1⟩; obtain ⟨hcc, hff⟩ := bcell hb1; have g1 : rb < w1.heap.size := Nat.lt_of_lt_of_le hrb hb1.size)
 have o1 : Only w.heap.size rb w w1 := Only.of_below hb1 (Nat.le_refl _)
 have hz1 := hb1.size
 have hilN : i + 1 ≤ e.length := by omega
 go_loopw [5, 53] (fun last kk wr => ∃ (k c2 fk a : Nat) (l : Option (List Nd)), kk = .int .i64 k ∧ k + c2 = N ∧ i + 1 ≤ a ∧ a ≤ e.length ∧ k ≤ a ∧ fk ≤ f ∧ 2 * (e.length - a) + 1 ≤ fk ∧
     Hid (vGo e f (.set N none) (i + 1) = vGo e fk (.set c2 l) a) ∧ Hid (LastIs wr rb k l last) ∧ Hid (Blk wr rb 186 (rdr (some ⟨b, o, none⟩) e.length c a)) ∧ Only w.heap.size rb w wr)
   (fun _ kk _ => N - (intOf kk).toNat)
 case atStart =>
   refine ⟨0, N, f, i + 1, none, rfl, by omega, by omega, by omega, by omega, by omega, by omega, rfl, rfl, ?_, ?_⟩
   · exact (rdr_step (HB.out.below hb1 hrb)).alloc _
   · (repeat (first | assumption | exact Only.refl _ _ _ | apply Only.drew | apply Only.drewN | (refine Only.alloc ?_ (by first | exact Nat.le_refl _ | omega | (simp; done) | (simp; omega)) _) | (refine Only.setCell ?_ (by first | exact .inl rfl | exact .inr (Nat.le_refl _) | exact .inr (by first | omega | (simp; omega))) _)))
 case round =>
   obtain ⟨k, c2, fk, a, l, rfl, hkc, hia, hal, hka, hff2, hfk, HK, HL, HBr, hor⟩ := hrel
   clear hcc hff
   have q0 : wr.cell? ⟨rb, 0, none⟩ = some (.slice (some ⟨b, o, none⟩) e.length c) := HBr.out.cell 0
   have q1 : wr.cell? ⟨rb, 1, none⟩ = some (.int .i64 a) := HBr.out.cell 1
   have hrw := HBr.out.lt
   by_cases hkN : k < N
   · obtain ⟨c3, rfl⟩ : ∃ c3, c2 = c3 + 1 := ⟨c2 - 1, by omega⟩
     obtain ⟨fk2, rfl⟩ : ∃ fk2, fk = fk2 + 1 := ⟨fk - 1, by omega⟩
     have hpo := HI.out fk2 (by omega) a wr rb (some ⟨b, o, none⟩) c (by omega) hal hc hcm HOK.out HBr.out (HS.out.only hor (Nat.le_of_lt hrb))
     have HP := Lib.hid hpo
     clear hpo
     cases hv : vGo e fk2 .one a with
     | none =>
       have HVN : Hid (vGo e (f + 1) .one i = none) := by
         show _ = _
         rw [HV.out, show x.n.toNat = N from by rw [HN.out]; rfl, HK.out]; simp [vGo, hv]
       have HPN := Lib.hid (HP.out.2 hv)
       clear hv HP
       go_wp2_with (go_at_call 142; refine HPN.out.mono ?_; rintro r w2 ⟨rfl, ho2⟩)
       exact ⟨rfl, PPost.no HVN.out (hor.trans (ho2.mono hor.size))⟩
     | some j =>
       obtain ⟨hjl, _, haj⟩ := vGo_bound e fk2 .one a j hv
       have hjl := hjl hal
       have haj := haj rfl
       have hpl := piece_le e a j
       have HPS := Lib.hid (HP.out.1 j hv)
       by_cases hk0 : k = 0
       · subst hk0
         have hln : l = none := by
           have := HL.out
           cases l with
           | none => rfl
           | some ll => have := this.1; omega
         have HK2 : Hid (vGo e f (.set N none) (i + 1) = vGo e fk2 (.set c3 (some (piece e a j))) j) := by
           show _ = _
           rw [HK.out, hln]; simp [vGo, hv, vLate]
         clear hv HP hln
         go_wp2_with (go_at_call 142; refine HPS.out.mono ?_; rintro r w2 ⟨A', c', rfl, hs2, hb2, ho2⟩)
         go_roundw
         case rel => exact ⟨1, c3, fk2, j, some (piece e a j), by go_num, by omega, by omega, by omega, by omega, by omega, by omega, HK2, ⟨by omega, by omega, A', c', rfl, hs2⟩, hb2, hor.trans (ho2.mono hor.size)⟩
         case measure => simp [intOf]; omega
       · have hls : ∃ ll, l = some ll ∧ ll.length ≤ 9223372036854775807 ∧ ∃ A c, u5 = .slice A ll.length c ∧ NdSl wr rb A ll := by
           have := HL.out
           cases l with
           | none => exact absurd this hk0
           | some ll => exact ⟨ll, rfl, this.2⟩
         obtain ⟨ll, hl, hlb, A1, c1, hu5, hs1⟩ := hls
         subst hl hu5
         have HS1 := Lib.hid hs1
         clear hs1
         by_cases hlate : 0 ≤ ndsCmp ll (piece e a j)
         · have HVN : Hid (vGo e (f + 1) .one i = none) := by
             show _ = _
             rw [HV.out, show x.n.toNat = N from by rw [HN.out]; rfl, HK.out]; simp [vGo, hv, vLate, hlate]
           clear hv HP
           go_wp2_with (first
             | (go_at_call 142; refine HPS.out.mono ?_; rintro r w2 ⟨A', c', rfl, hs2, hb2, ho2⟩)
             | (go_at_call 162; refine (val_order A1 _ _ _ ll (piece e a j) _ ((HS1.out.only ho2 (Nat.le_of_lt hrw)).more (Nat.le_of_lt hb2.lt)) (hs2.more (Nat.le_of_lt hb2.lt)) hlb (by omega)).mono ?_; rintro r w3 ⟨rfl, hb3⟩))
           exact ⟨rfl, PPost.no HVN.out ((hor.trans (ho2.mono hor.size)).trans (Only.of_below hb3 (Nat.le_trans hor.size ho2.size)))⟩
         · have HK2 : Hid (vGo e f (.set N none) (i + 1) = vGo e fk2 (.set c3 (some (piece e a j))) j) := by
             show _ = _
             rw [HK.out]; simp [vGo, hv, vLate, hlate]
           clear hv HP
           go_wp2_with (first
             | (go_at_call 142; refine HPS.out.mono ?_; rintro r w2 ⟨A', c', rfl, hs2, hb2, ho2⟩)
             | (go_at_call 162; refine (val_order A1 _ _ _ ll (piece e a j) _ ((HS1.out.only ho2 (Nat.le_of_lt hrw)).more (Nat.le_of_lt hb2.lt)) (hs2.more (Nat.le_of_lt hb2.lt)) hlb (by omega)).mono ?_; rintro r w3 ⟨rfl, hb3⟩))
           have ho3 := (hor.trans (ho2.mono hor.size)).trans (Only.of_below (g := rb) hb3 (Nat.le_trans hor.size ho2.size))
           go_roundw
           case rel => exact ⟨k + 1, c3, fk2, j, some (piece e a j), by go_num, by omega, by omega, by omega, by omega, by omega, by omega, HK2, ⟨by omega, by omega, A', c', rfl, hs2.keep (fun p hp => hb3.cell (by have := hb2.lt; omega))⟩, hb2.below hb3 hb2.lt, ho3⟩
           case measure => simp [intOf]; omega
   · obtain rfl : c2 = 0 := by omega
     obtain rfl : k = N := by omega
     have HVS : Hid (vGo e (f + 1) .one i = some a) := by
       show _ = _
       rw [HV.out, show x.n.toNat = k from by rw [HN.out]; rfl, HK.out]
       cases fk <;> simp [vGo]
     go_wp2_with fail
     go_quiet (fail)
     go_wp2
     go_ret
     refine ⟨fun j hj => ?_, fun hn => by have := HVS.out; rw [hn] at this; cases this⟩
     obtain rfl : a = j := by have := HVS.out; rw [hj] at this; injection this with this; exact this.symm
     refine ⟨some ⟨b, o + i * 4, none⟩, c - i, by rw [piece_len hal]; rfl, ?_, ?_, ?_⟩
     · exact ((HS.out.piece i a).only (hor.drewN _) (Nat.le_of_lt hrb))
     · exact HBr.out.drewN _
     · exact hor.drewN _
end Go.Proofs.YtbggbcnfkcadjaaGreatDoor
namespace Go.Proofs.YtbggbcnfkcadjaaGreatDoor
open Go.RowKit
theorem below_of_drew {w w' : World} (h : Below w.drew.heap.size w.drew w') : Below w.heap.size w w' := ⟨h.os, h.tape, h.output, h.size, h.block⟩
structure SR (wr : World) (rb b o : Nat) (v : Value) (a : Nat) (m : Nd) (W : World) : Prop where
 q0 : W.cell? ⟨rb, 0, none⟩ = some v
 q1 : W.cell? ⟨rb, 1, none⟩ = some (.int .i64 a)
 m0 : W.cell? ⟨b, o, none⟩ = some (.int .i64 m.op)
 m1 : W.cell? ⟨b, o + 1, none⟩ = some (.int .i64 m.n)
 m2 : W.cell? ⟨b, o + 2, none⟩ = some (.string m.s)
 m3 : W.cell? ⟨b, o + 3, none⟩ = some (.string m.t)
 sz : wr.heap.size ≤ W.heap.size
set_option maxRecDepth 100000 in
set_option maxHeartbeats 4000000 in
theorem part_rec (e : List Nd) (f i : Nat) (x : Nd) (hx : e[i]? = some x) (hsh : shapedV x = true) (hop : x.op = 6) (ih : ∀ f', f' ≤ f → ∀ i', PartOk e f' i') : PartOk e (f + 1) i := by
 intro w rb A c hf hi hc hcm hok hblk hsl
 have hrb := hblk.lt
 have k0 : w.cell? ⟨rb, 0, none⟩ = some (.slice A e.length c) := hblk.cell 0
 have k1 : w.cell? ⟨rb, 1, none⟩ = some (.int .i64 i) := hblk.cell 1
 have z1 : w.frozen? ⟨rb, 1, none⟩ = false := hblk.frozen 1
 have hil : i < e.length := (List.getElem?_eq_some_iff.1 hx).1
 obtain ⟨b, o, rfl, hb, hcs⟩ := hsl.at_ hil
 obtain ⟨d0, d1, d2, d3⟩ := hcs i x hx
 obtain ⟨hxs, hxt⟩ := hok x (List.mem_of_getElem? hx)
 have hbw : b < w.heap.size := by omega
 have HX := Lib.hid hx
 have HB := Lib.hid hblk
 have HS := Lib.hid hsl
 have HOK := Lib.hid hok
 clear hx hblk hsl hcs hok
 have HV : Hid (vGo e (f + 1) .one i = vGo e f (.flds x.n.toNat ⟨#[]⟩) (i + 1)) := by
   have hn := HX.out
   show _ = _
   simp [vGo, hn, hsh, hop]
 have hxn : 0 ≤ x.n := by simp [shapedV, hop] at hsh; omega
 obtain ⟨N, hN⟩ := Int.eq_ofNat_of_zero_le hxn
 have HN := Lib.hid hN
 have HI := Lib.hid ih
 have p5 : (x.op == 5) = false := by simp [hop]
 have p6 : (x.op == 6) = true := by simp [hop]
 clear hop ih hN
 rw [show x.n = (N : Int) from HN.out] at d1
 have hsh2 : shapedV ⟨x.op, (N : Int), x.s, x.t⟩ = true := by have := HN.out; simp only [← this]; exact hsh
 have hdl : decide (e.length ≤ i) = false := by simp; omega
 suffices hw : Calls Tryz.prog 142 #[.pointer (some ⟨rb, 0, none⟩)] w (PPost e (vGo e (f + 1) .one i) i rb (some ⟨b, o, none⟩) c w) from
   ⟨fun j hj => hw.mono fun _ _ p => p.1 j hj, fun hn => hw.mono fun _ _ p => p.2 hn⟩
 go_enter Tryz.func142, Tryz.ntmps142
 go_wp2_with (go_at_call 161; refine (val_shaped x.op _ x.s x.t _ hxs hxt).mono ?_; rintro r w1 ⟨rfl, hb1⟩; obtain ⟨hcc, hff⟩ := bcell hb1; have g1 : rb < w1.heap.size := Nat.lt_of_lt_of_le hrb hb1.size)
 have o1 : Only w.heap.size rb w w1 := Only.of_below hb1 (Nat.le_refl _)
 have hz1 := hb1.size
 have hilN : i + 1 ≤ e.length := by omega
 go_loopw [8, 74] (fun last kk wr => ∃ (k c2 fk a : Nat) (l : ByteArray), kk = .int .i64 k ∧ last = .string l ∧ k + c2 = N ∧ i + 1 ≤ a ∧ a ≤ e.length ∧ k ≤ a ∧ fk ≤ f ∧ 2 * (e.length - a) + 1 ≤ fk ∧
     Hid (vGo e f (.flds N ⟨#[]⟩) (i + 1) = vGo e fk (.flds c2 l) a) ∧ Hid (Blk wr rb 186 (rdr (some ⟨b, o, none⟩) e.length c a)) ∧ Only w.heap.size rb w wr)
   (fun _ kk _ => N - (intOf kk).toNat)
 case atStart =>
   refine ⟨0, N, f, i + 1, ⟨#[]⟩, rfl, rfl, by omega, by omega, by omega, by omega, by omega, by omega, rfl, ?_, ?_⟩
   · exact (rdr_step (HB.out.below hb1 hrb)).alloc _
   · (repeat (first | assumption | exact Only.refl _ _ _ | apply Only.drew | apply Only.drewN | (refine Only.alloc ?_ (by first | exact Nat.le_refl _ | omega | (simp; done) | (simp; omega)) _) | (refine Only.setCell ?_ (by first | exact .inl rfl | exact .inr (Nat.le_refl _) | exact .inr (by first | omega | (simp; omega))) _)))
 case round =>
   obtain ⟨k, c2, fk, a, l, rfl, rfl, hkc, hia, hal, hka, hff2, hfk, HK, HBr, hor⟩ := hrel
   clear hcc hff
   have q0 : wr.cell? ⟨rb, 0, none⟩ = some (.slice (some ⟨b, o, none⟩) e.length c) := HBr.out.cell 0
   have q1 : wr.cell? ⟨rb, 1, none⟩ = some (.int .i64 a) := HBr.out.cell 1
   have y1 : wr.frozen? ⟨rb, 1, none⟩ = false := HBr.out.frozen 1
   have hrw := HBr.out.lt
   by_cases hkN : k < N
   · obtain ⟨c3, rfl⟩ : ∃ c3, c2 = c3 + 1 := ⟨c2 - 1, by omega⟩
     obtain ⟨fk2, rfl⟩ : ∃ fk2, fk = fk2 + 1 := ⟨fk - 1, by omega⟩
     by_cases hae : e.length ≤ a
     · have HVN : Hid (vGo e (f + 1) .one i = none) := by
         show _ = _
         rw [HV.out, show x.n.toNat = N from by rw [HN.out]; rfl, HK.out]; simp [vGo, List.getElem?_eq_none hae]
       have hd2 : decide (e.length ≤ a) = true := by simp; omega
       go_wp2_with fail
       go_quiet (fail)
       go_wp2_with fail
       exact ⟨rfl, PPost.no HVN.out (hor.drewN _)⟩
     · have hal2 : a < e.length := by omega
       have hd2 : decide (e.length ≤ a) = false := by simp; omega
       obtain ⟨m, hm⟩ : ∃ m, e[a]? = some m := ⟨_, List.getElem?_eq_getElem hal2⟩
       obtain ⟨hms, hmt⟩ := HOK.out m (List.mem_of_getElem? hm)
       have hcs : ∀ i x, e[i]? = some x → NdAt wr b (o + i * 4) x := by
         obtain ⟨b', o', h1, _, h2⟩ := (HS.out.only hor (Nat.le_of_lt hrb)).at_ hal2
         injection h1 with h1; injection h1 with h1 h3; subst h1 h3; exact h2
       obtain ⟨m0, m1, m2, m3⟩ := hcs a m hm
       have hbwr : b < wr.heap.size := by omega
       have HM := Lib.hid hm
       clear hcs hm
       by_cases hm7 : m.op = 7
       · have hd3 : (m.op != 7) = false := by simp [hm7]
         have HM7 := Lib.hid hm7
         clear hm7
         go_wp2_with fail
         refine wp_region_hd (S := SR wr rb b (o + a * 4) (.slice (some ⟨b, o, none⟩) e.length c) a m) [false, false, false, false, false, false, false, false, false, false, false, false, false, false, false, false, false, false, false, false, false, false, false, false, false, false, false, false, false, false, false, false, false, false, false, true, false, false, false, false, false, false, false, false, false, false, false, false, false, false, false, false, false] (by kernel_rfl) (by kernel_rfl) (fun _ _ _ _ _ h => h) ⟨q0, q1, m0, m1, m2, m3, Nat.le_refl _⟩ (fun hW => ?_)
         simp only [List.zip_cons_cons, List.zip_nil_left]
         (repeat (first | (refine hd_take (v := ?_) (by rfl) ?_ ?_; rotate_left; (focus (intro W hW; obtain ⟨s0, s1, s2, s3, s4, s5, s6⟩ := hW; go_simp; try with_reducible rfl)); simp only [Act.put, List.setIfInBounds_toArray, List.set_cons_zero, List.set_cons_succ]) | (refine hd_skip (by rfl) ?_; simp only [Act.put, List.setIfInBounds_toArray, List.set_cons_zero, List.set_cons_succ])))
         refine hd_call (fun K hK => ?_)
         go_simp
         refine (val_shaped m.op m.n m.s m.t _ hms hmt).mono ?_
         rintro r w2 ⟨rfl, hb2'⟩
         have hb2 := below_of_drew hb2'
         obtain ⟨hcc2, _⟩ := bcell hb2
         refine hK _ _ ⟨(hcc2 _ _ hrw).trans q0, (hcc2 _ _ hrw).trans q1, (hcc2 _ _ hbwr).trans m0, (hcc2 _ _ hbwr).trans m1, (hcc2 _ _ hbwr).trans m2, (hcc2 _ _ hbwr).trans m3, hb2.size⟩ ?_
         clear hK K hcc2 hb2'
         have hor2 := hor.trans (Only.of_below (g := rb) hb2 hor.size)
         cases hms2 : shapedV m with
         | false =>
           have HVN : Hid (vGo e (f + 1) .one i = none) := by
             have := HM.out
             show _ = _
             rw [HV.out, show x.n.toNat = N from by rw [HN.out]; rfl, HK.out]; simp [vGo, this, hms2]
           (repeat (first | (refine hd_take (v := ?_) (by rfl) ?_ ?_; rotate_left; (focus (intro W hW; obtain ⟨s0, s1, s2, s3, s4, s5, s6⟩ := hW; go_simp; try with_reducible rfl)); simp only [Act.put, List.setIfInBounds_toArray, List.set_cons_zero, List.set_cons_succ]) | (refine hd_skip (by rfl) ?_; simp only [Act.put, List.setIfInBounds_toArray, List.set_cons_zero, List.set_cons_succ])))
           refine hd_nil ?_
           go_wp2_with fail
           exact ⟨rfl, PPost.no HVN.out hor2⟩
         | true =>
           by_cases hlate : sLate l m.s = true
           · have HVN : Hid (vGo e (f + 1) .one i = none) := by
               have := HM.out
               show _ = _
               rw [HV.out, show x.n.toNat = N from by rw [HN.out]; rfl, HK.out]; simp [vGo, this, hlate]
             unfold sLate at hlate
             (repeat (first | (refine hd_take (v := ?_) (by rfl) ?_ ?_; rotate_left; (focus (intro W hW; obtain ⟨s0, s1, s2, s3, s4, s5, s6⟩ := hW; go_simp; try with_reducible rfl)); simp only [Act.put, List.setIfInBounds_toArray, List.set_cons_zero, List.set_cons_succ]) | (refine hd_skip (by rfl) ?_; simp only [Act.put, List.setIfInBounds_toArray, List.set_cons_zero, List.set_cons_succ])))
             refine hd_nil ?_
             go_wp2_with fail
             exact ⟨rfl, PPost.no HVN.out hor2⟩
           · have hlate : sLate l m.s = false := by simpa using hlate
             have HLT := Lib.hid hlate
             unfold sLate at hlate
             (repeat (first | (refine hd_take (v := ?_) (by rfl) ?_ ?_; rotate_left; (focus (intro W hW; obtain ⟨s0, s1, s2, s3, s4, s5, s6⟩ := hW; go_simp; try with_reducible rfl)); simp only [Act.put, List.setIfInBounds_toArray, List.set_cons_zero, List.set_cons_succ]) | (refine hd_skip (by rfl) ?_; simp only [Act.put, List.setIfInBounds_toArray, List.set_cons_zero, List.set_cons_succ])))
             refine hd_nil ?_
             have r0 : w2.cell? ⟨rb, 0, none⟩ = some (.slice (some ⟨b, o, none⟩) e.length c) := (hb2.cell (p := ⟨rb, 0, none⟩) hrw).trans q0
             have r1 : w2.cell? ⟨rb, 1, none⟩ = some (.int .i64 a) := (hb2.cell (p := ⟨rb, 1, none⟩) hrw).trans q1
             have t1 : w2.frozen? ⟨rb, 1, none⟩ = false := (hb2.frozen (p := ⟨rb, 1, none⟩) hrw).trans y1
             have n2 : w2.cell? ⟨b, o + a * 4 + 2, none⟩ = some (.string m.s) := (hb2.cell (p := ⟨b, o + a * 4 + 2, none⟩) hbwr).trans m2
             have HBr2 : Hid (Blk w2 rb 186 (rdr (some ⟨b, o, none⟩) e.length c a)) := HBr.out.below hb2 hrw
             have hw2 : rb < w2.heap.size := HBr2.out.lt
             clear q0 q1 m0 m1 m2 m3 y1
             go_wp2_with fail
             go_quiet (fail)
             obtain ⟨w3, hw3⟩ : ∃ w3, w3 = w2.drewN nq := ⟨_, rfl⟩
             rw [← hw3]
             have HBr3 : Hid (Blk w3 rb 186 (rdr (some ⟨b, o, none⟩) e.length c a)) := by rw [hw3]; exact HBr2.out.drewN _
             have hor3 : Only w.heap.size rb w w3 := by rw [hw3]; exact hor2.drewN _
             have v1 : w3.cell? ⟨rb, 1, none⟩ = some (.int .i64 a) := HBr3.out.cell 1
             have z3 : w3.frozen? ⟨rb, 1, none⟩ = false := HBr3.out.frozen 1
             have hw4 : rb < w3.heap.size := HBr3.out.lt
             clear hw3 r0 r1 t1 n2
             go_wp2_with fail
             have HBr4 : Hid (Blk (w3.setCell ⟨rb, 1, none⟩ (.int .i64 ((a : Int) + 1))) rb 186 (rdr (some ⟨b, o, none⟩) e.length c (a + 1))) := rdr_step HBr3.out
             have hor4 : Only w.heap.size rb w (w3.setCell ⟨rb, 1, none⟩ (.int .i64 ((a : Int) + 1))) := hor3.setCell (.inl rfl) _
             generalize w3.setCell ⟨rb, 1, none⟩ (.int .i64 ((a : Int) + 1)) = w4 at HBr4 hor4 ⊢
             have hpo := HI.out fk2 (by omega) (a + 1) w4 rb (some ⟨b, o, none⟩) c (by omega) hal2 hc hcm HOK.out HBr4.out (HS.out.only hor4 (Nat.le_of_lt hrb))
             have HP := Lib.hid hpo
             clear hpo v1 z3
             cases hv : vGo e fk2 .one (a + 1) with
             | none =>
               have HVN : Hid (vGo e (f + 1) .one i = none) := by
                 have h1 := HM.out
                 have h2 := HLT.out
                 have h7 := HM7.out
                 show _ = _
                 rw [HV.out, show x.n.toNat = N from by rw [HN.out]; rfl, HK.out]; simp [vGo, h1, h2, h7, hms2, hv]
               have HPN := Lib.hid (HP.out.2 hv)
               clear hv HP
               refine HPN.out.mono ?_
               rintro r w5 ⟨rfl, ho5⟩
               go_wp2_with fail
               exact ⟨rfl, PPost.no HVN.out (hor4.trans (ho5.mono hor4.size))⟩
             | some j =>
               obtain ⟨hjl, _, haj⟩ := vGo_bound e fk2 .one (a + 1) j hv
               have hjl := hjl hal2
               have haj := haj rfl
               have HK2 : Hid (vGo e f (.flds N ⟨#[]⟩) (i + 1) = vGo e fk2 (.flds c3 m.s) j) := by
                 have h1 := HM.out
                 have h2 := HLT.out
                 have h7 := HM7.out
                 show _ = _
                 rw [HK.out]; simp [vGo, h1, h2, h7, hms2, hv]
               have HPS := Lib.hid (HP.out.1 j hv)
               clear hv HP
               refine HPS.out.mono ?_
               rintro r w5 ⟨A', c', rfl, hs5, hb5, ho5⟩
               go_wp2_with fail
               go_roundw
               case rel => exact ⟨k + 1, c3, fk2, j, m.s, by go_num, rfl, by omega, by omega, by omega, by omega, by omega, by omega, HK2, hb5, hor4.trans (ho5.mono hor4.size)⟩
               case measure => simp [intOf]; omega
       · have HVN : Hid (vGo e (f + 1) .one i = none) := by
           have := HM.out
           show _ = _
           rw [HV.out, show x.n.toNat = N from by rw [HN.out]; rfl, HK.out]; simp [vGo, this, hm7]
         have hd3 : (m.op != 7) = true := by simp [hm7]
         go_wp2_with fail
         go_quiet (fail)
         go_wp2_with fail
         exact ⟨rfl, PPost.no HVN.out (hor.drewN _)⟩
   · obtain rfl : c2 = 0 := by omega
     obtain rfl : k = N := by omega
     have HVS : Hid (vGo e (f + 1) .one i = some a) := by
       show _ = _
       rw [HV.out, show x.n.toNat = k from by rw [HN.out]; rfl, HK.out]
       cases fk <;> simp [vGo]
     go_wp2_with fail
     go_quiet (fail)
     go_wp2
     go_ret
     refine ⟨fun j hj => ?_, fun hn => by have := HVS.out; rw [hn] at this; cases this⟩
     obtain rfl : a = j := by have := HVS.out; rw [hj] at this; injection this with this; exact this.symm
     refine ⟨some ⟨b, o + i * 4, none⟩, c - i, by rw [piece_len hal]; rfl, ?_, ?_, ?_⟩
     · exact ((HS.out.piece i a).only (hor.drewN _) (Nat.le_of_lt hrb))
     · exact HBr.out.drewN _
     · exact hor.drewN _
end Go.Proofs.YtbggbcnfkcadjaaGreatDoor
namespace Go.Proofs.YtbggbcnfkcadjaaGreatDoor
open Go.RowKit
theorem assert_wrong (w : World) : (Instr.typeAssert (.iface 183 (.agg #[])) 20 183 true).run Tryz.prog w = .ok (.tuple #[.agg #[], .bool true]) w := by kernel_rfl
set_option maxHeartbeats 800000 in
theorem chk_idle (p : Addr) (w : World) :
   CallsD Tryz.prog 141 #[.pointer (some p)] .returning w fun e u' w' => e = .returned (.tuple #[]) ∧ u' = .returning ∧ w' = w := by
 refine callsD_of_wpS Tryz.func141 rfl fun c₀ cs hu => ?_
 apply wpS_seq
 apply wpS_region
 simp [wpOpsS, go_sem, recoverD, hu, Tryz.ntmps141, Exit.thenS]
 refine wpS_of_wp ?_
 simp only [Array.replicate_succ, Array.replicate_zero, List.push_toArray, List.nil_append, List.cons_append]
 go_wp2
 cases c₀
 simp_all [bodyPostS, results, Tryz.results141]
set_option maxHeartbeats 800000 in
theorem chk_catch (p : Addr) (x : Value) (older : List PanicEntry) (w : World) (hc : w.cell? p = some x) (hz : w.frozen? p = false) :
   CallsD Tryz.prog 141 #[.pointer (some p)] (.panicking ({ v := .iface 183 (.agg #[]), recovered := false } :: older)) w fun e u' w' =>
     e = .returned (.tuple #[]) ∧ u' = .panicking ({ v := .iface 183 (.agg #[]), recovered := true } :: older) ∧ ∃ o, w' = (w.alloc o).setCell p (.iface 33 (.int .i64 1)) := by
 have hta := assert_wrong
 have hcw : (w.alloc (.cells #[] 183)).cell? p = some x := (World.cell?_alloc_lt w _ _ (World.block_lt_of_cell? w p hc)).trans hc
 have hzw : (w.alloc (.cells #[] 183)).frozen? p = false := (((Below.refl w.heap.size w).alloc (Nat.le_refl _) _).frozen (World.block_lt_of_cell? w p hc)).trans hz
 refine callsD_of_wpS Tryz.func141 rfl fun c₀ cs hu => ?_
 apply wpS_seq
 apply wpS_region
 simp [wpOpsS, go_sem, recoverD, hu, Tryz.ntmps141, Exit.thenS]
 refine wpS_of_wp ?_
 simp only [Array.replicate_succ, Array.replicate_zero, List.push_toArray, List.nil_append, List.cons_append]
 go_wp2
 simp [bodyPostS, results, Tryz.results141]
 exact ⟨_, rfl⟩
end Go.Proofs.YtbggbcnfkcadjaaGreatDoor
namespace Go.Proofs.YtbggbcnfkcadjaaGreatDoor
open Go.RowKit
theorem part_all (e : List Nd) : ∀ f i, PartOk e f i := by
 intro f
 induction f using Nat.strongRecOn with
 | _ f ih =>
   intro i
   by_cases hi : e.length ≤ i
   · exact part_out e f i hi
   · have hil : i < e.length := by omega
     cases f with
     | zero => intro w rb A c hf; omega
     | succ f =>
       have hx : e[i]? = some e[i] := List.getElem?_eq_getElem hil
       cases hsh : shapedV e[i] with
       | false => exact part_bad e f i _ hx hsh
       | true =>
         by_cases h5 : e[i].op = 5
         · exact part_set e f i _ hx hsh h5 (fun f' hf i' => ih f' (by omega) i')
         · by_cases h6 : e[i].op = 6
           · exact part_rec e f i _ hx hsh h6 (fun f' hf i' => ih f' (by omega) i')
           · by_cases h7 : e[i].op = 7
             · exact part_fld e f i _ hx hsh h7
             · exact part_leaf e f i _ hx hsh h5 h6 h7
set_option maxHeartbeats 1600000 in
theorem val_Check_big (e : List Nd) (A : Option Addr) (c : Nat) (w : World) (h : 200 < e.length) (hm : e.length ≤ 9223372036854775807) :
   Calls Tryz.prog 112 #[.slice A e.length c] w fun r w' => r = .returned (errV (valErr e)) ∧ Below w.heap.size w w' := by
 have hv : valErr e = 4 := by simp [valErr, h]
 rw [hv]
 clear hv
 have hmf : ∀ (fn : Fn) (first cap : Array Value) (w : World), (Instr.makeFunc fn first cap).run Tryz.prog w = .ok (.func fn first cap) w := fun _ _ _ _ => rfl
 go_enter_defers Tryz.func112, Tryz.ntmps112
 go_wp2
 simp [bodyPostD, Leaves, results, Tryz.results112, go_sem, errV]
 (repeat (first | assumption | exact Below.refl _ _ | apply Below.drew | apply below_drewN | (refine Below.alloc ?_ (by first | exact Nat.le_refl _ | omega | (simp; done) | (simp; omega)) _)))
set_option maxHeartbeats 1600000 in
theorem val_Check_go (e : List Nd) (A : Option Addr) (c : Nat) (w : World) (h : ¬ 200 < e.length) (hc : e.length ≤ c) (hcm : c ≤ 9223372036854775807) (hok : NdOk e) (hsl : NdSl w w.heap.size A e) :
   Calls Tryz.prog 112 #[.slice A e.length c] w fun r w' => r = .returned (errV (valErr e)) ∧ Below w.heap.size w w' := by
 have hmf : ∀ (fn : Fn) (first cap : Array Value) (w : World), (Instr.makeFunc fn first cap).run Tryz.prog w = .ok (.func fn first cap) w := fun _ _ _ _ => rfl
 have HB : Hid (Blk ((w.alloc (.cells #[.nilIface] 25)).alloc (.cells #[.slice A e.length c, .int .i64 0] 186)) (w.heap.size + 1) 186 (rdr A e.length c 0)) := by
   have := Blk.new (w.alloc (.cells #[.nilIface] 25)) 186 #[.slice A e.length c, .int .i64 0]
   rwa [World.size_alloc] at this
 have hcE : ((w.alloc (.cells #[.nilIface] 25)).alloc (.cells #[.slice A e.length c, .int .i64 0] 186)).cell? ⟨w.heap.size, 0, none⟩ = some .nilIface := by simp [go_sem]
 have hzE : ((w.alloc (.cells #[.nilIface] 25)).alloc (.cells #[.slice A e.length c, .int .i64 0] 186)).frozen? ⟨w.heap.size, 0, none⟩ = false := by simp [go_sem]
 have HC := Lib.hid hcE
 have HZ := Lib.hid hzE
 have hS : NdSl ((w.alloc (.cells #[.nilIface] 25)).alloc (.cells #[.slice A e.length c, .int .i64 0] 186)) (w.heap.size + 1) A e := by
   refine (hsl.below ?_).more (by omega)
   (repeat (first | assumption | exact Below.refl _ _ | apply Below.drew | apply below_drewN | (refine Below.alloc ?_ (by first | exact Nat.le_refl _ | omega | (simp; done) | (simp; omega)) _)))
 have HS := Lib.hid hS
 have hbw : Below w.heap.size w ((w.alloc (.cells #[.nilIface] 25)).alloc (.cells #[.slice A e.length c, .int .i64 0] 186)) := by (repeat (first | assumption | exact Below.refl _ _ | apply Below.drew | apply below_drewN | (refine Below.alloc ?_ (by first | exact Nat.le_refl _ | omega | (simp; done) | (simp; omega)) _)))
 have hsz : w.heap.size + 2 ≤ ((w.alloc (.cells #[.nilIface] 25)).alloc (.cells #[.slice A e.length c, .int .i64 0] 186)).heap.size := by simp
 clear hcE hzE hS hsl
 go_enter_defers Tryz.func112, Tryz.ntmps112
 go_wp2_with fail
 generalize ((w.alloc (.cells #[.nilIface] 25)).alloc (.cells #[.slice A e.length c, .int .i64 0] 186)) = w1 at HB HC HZ HS hbw hsz ⊢
 have hpo := part_all e (2 * e.length) 0 w1 (w.heap.size + 1) A c (by omega) (by omega) hc hcm hok HB.out HS.out
 have HP := Lib.hid hpo
 clear hpo
 cases hv : vGo e (2 * e.length) .one 0 with
 | none =>
   have HV : Hid (valErr e = 1) := by show _ = _; simp [valErr, h, hv]
   have HPN := Lib.hid (HP.out.2 hv)
   clear hv HP
   refine HPN.out.mono ?_
   rintro r w2 ⟨rfl, ho2⟩
   have hc2 : w2.cell? ⟨w.heap.size, 0, none⟩ = some .nilIface := (ho2.cell (p := ⟨w.heap.size, 0, none⟩) (by simp; omega) (by simp)).trans HC.out
   have hz2 : w2.frozen? ⟨w.heap.size, 0, none⟩ = false := (ho2.frozen (p := ⟨w.heap.size, 0, none⟩) (by simp; omega) (by simp)).trans HZ.out
   have hb2 : Below w.heap.size w w2 := hbw.trans (ho2.below (by omega) (by omega))
   go_wp2_with fail
   refine leaves_cons (f := 141) (args := #[.pointer (some ⟨w.heap.size, 0, none⟩)]) (by simp) (by simp [go_sem]) ?_
   refine (chk_catch ⟨w.heap.size, 0, none⟩ _ [] _ hc2 hz2).mono ?_
   rintro e' u' w'' ⟨rfl, rfl, o, rfl⟩
   have hcell : ((w2.alloc o).setCell ⟨w.heap.size, 0, none⟩ (.iface 33 (.int .i64 1))).cell? ⟨w.heap.size, 0, none⟩ = some (.iface 33 (.int .i64 1)) := World.cell?_setCell_same _ _ _ ((World.cell?_alloc_lt w2 _ _ (World.block_lt_of_cell? w2 _ hc2)).trans hc2)
   simp [Leaves, settle, results, Tryz.results112, go_sem, hcell]
   rw [HV.out]
   exact ⟨rfl, (hb2.alloc hb2.size _).setCell (Nat.le_refl _) _⟩
 | some j =>
   obtain ⟨hjl, _, _⟩ := vGo_bound e _ .one 0 j hv
   have hjl := hjl (by omega)
   have HPS := Lib.hid (HP.out.1 j hv)
   have HV : Hid (valErr e = if j = e.length then 0 else 1) := by show _ = _; simp [valErr, h, hv]
   clear hv HP
   refine HPS.out.mono ?_
   rintro r w2 ⟨A', c', rfl, hs2, hb2, ho2⟩
   have hc2 : w2.cell? ⟨w.heap.size, 0, none⟩ = some .nilIface := (ho2.cell (p := ⟨w.heap.size, 0, none⟩) (by simp; omega) (by simp)).trans HC.out
   have hz2 : w2.frozen? ⟨w.heap.size, 0, none⟩ = false := (ho2.frozen (p := ⟨w.heap.size, 0, none⟩) (by simp; omega) (by simp)).trans HZ.out
   have hbe2 : Below w.heap.size w w2 := hbw.trans (ho2.below (by omega) (by omega))
   have k1 : w2.cell? ⟨w.heap.size + 1, 1, none⟩ = some (.int .i64 j) := hb2.cell 1
   clear hs2
   by_cases hje : j < e.length
   · go_wp2_with fail
     refine leaves_cons (f := 141) (args := #[.pointer (some ⟨w.heap.size, 0, none⟩)]) (by simp) (by simp [go_sem]) ?_
     refine (chk_idle ⟨w.heap.size, 0, none⟩ _).mono ?_
     rintro e' u' w'' ⟨rfl, rfl, rfl⟩
     simp [Leaves, settle, results, Tryz.results112, go_sem, hc2]
     rw [HV.out, if_neg (by omega)]
     exact ⟨rfl, hbe2.setCell (Nat.le_refl _) _⟩
   · go_wp2_with fail
     refine leaves_cons (f := 141) (args := #[.pointer (some ⟨w.heap.size, 0, none⟩)]) (by simp) (by simp [go_sem]) ?_
     refine (chk_idle ⟨w.heap.size, 0, none⟩ _).mono ?_
     rintro e' u' w'' ⟨rfl, rfl, rfl⟩
     simp [Leaves, settle, results, Tryz.results112, go_sem, hc2]
     rw [HV.out, if_pos (by omega)]
     exact ⟨rfl, hbe2.setCell (Nat.le_refl _) _⟩
theorem val_Check (e : List Nd) (A : Option Addr) (c : Nat) (w : World) (hc : e.length ≤ c) (hcm : c ≤ 9223372036854775807) (hok : NdOk e) (hsl : NdSl w w.heap.size A e) :
   Calls Tryz.prog 112 #[.slice A e.length c] w fun r w' => r = .returned (errV (valErr e)) ∧ Below w.heap.size w w' := by
 by_cases h : 200 < e.length
 · exact val_Check_big e A c w h (by omega)
 · exact val_Check_go e A c w h hc hcm hok hsl
theorem val_Check1 (x : Nd) (b : Nat) (w : World) (hx : NdAt w b 0 x) (hb : b < w.heap.size) (hs : x.s.size ≤ 140737488351232) (ht : x.t.size ≤ 140737488351232) :
   Calls Tryz.prog 112 #[.slice (some ⟨b, 0, none⟩) 1 1] w fun r w' => r = .returned (errV (valErr [x])) ∧ Below w.heap.size w w' :=
 val_Check [x] (some ⟨b, 0, none⟩) 1 w (by simp) (by omega) (fun y hy => by simp at hy; subst hy; exact ⟨hs, ht⟩) (fun _ => ⟨b, 0, rfl, hb, fun i y hy => by
   match i, hy with
   | 0, hy => simp at hy; subst hy; exact hx⟩)
end Go.Proofs.YtbggbcnfkcadjaaGreatDoor
namespace Go.Proofs.YtbggbcnfkcadjaaGreatDoor
open Go.RowKit
set_option maxHeartbeats 1600000 in
theorem tree_parts (op n : Int) (s t : ByteArray) (w : World) :
   Calls Tryz.prog 80 #[.agg #[.int .i64 op, .int .i64 n, .string s, .string t]] w fun e w' => e = .returned (.int .i64 (ndParts ⟨op, n, s, t⟩)) ∧ Below w.heap.size w w' := by
 go_enter Tryz.func80, Tryz.ntmps80
 go_wp2
 all_goals
   go_ret
   refine ⟨ret_int ?_, (Below.refl _ _).alloc (Nat.le_refl _) _⟩
   simp only [beq_iff_eq, beq_eq_false_iff_ne] at *
   simp [ndParts, *]
set_option maxHeartbeats 1600000 in
theorem tree_Reserved (s : ByteArray) (w : World) :
   Calls Tryz.prog 143 #[.string s] w fun e w' => e = .returned (.bool (reserved s.toList)) ∧ w = w' := by
 go_enter Tryz.func143, Tryz.ntmps143
 go_wp2
 all_goals
   go_ret
   refine ⟨ret_bool ?_, rfl⟩
   first | (simp [reserved, *]; done) | simp_all
set_option maxHeartbeats 1600000 in
theorem tree_variable (s : ByteArray) (w : World) (hs : s.size ≤ 140737488351232) :
   Calls Tryz.prog 113 #[.string s] w fun e w' => e = .returned (.bool (variableB s.toList)) ∧ Below w.heap.size w w' := by
 by_cases h0 : 0 < s.size
 · have h0' : s.toList.isEmpty = false := toList_ne h0
   obtain ⟨l, hl0⟩ := toList_cons h0
   have HL := Lib.hid hl0
   have hx := extract_one s
   have HX : Hid ((s.extract 1 s.size).toList = l) := by rw [hl0] at hx; exact hx
   have hxs := extract_size s
   have HXS := Lib.hid hxs
   clear hl0 hx hxs
   by_cases hq : s[0] = 63
   · have hqi : ((s[0].toNat : Int) == 63) = true := by rw [hq]; rfl
     go_enter Tryz.func113, Tryz.ntmps113
     go_wp2_with (go_at_call 114; refine (name_Check _ _ (by have := HXS.out; omega)).mono ?_; rintro e w1 ⟨rfl, hb1⟩)
     go_ret
     exact ⟨ret_bool (by rw [HX.out, HL.out]; simp [variableB, hq]), hb1⟩
   · have hqi : ((s[0].toNat : Int) == 63) = false := by
       rw [beq_eq_false_iff_ne]; intro hc; apply hq; apply UInt8.toNat_inj.1; simp; omega
     have HV : Hid (variableB s.toList = (nameErr s.toList == 0 && !reserved s.toList)) := by show _ = _; rw [HL.out]; simp [variableB, hq]
     go_enter Tryz.func113, Tryz.ntmps113
     go_wp2_with (first | (go_at_call 114; refine (name_Check s _ hs).mono ?_; rintro e w1 ⟨rfl, hb1⟩) | (go_at_call 143; refine (tree_Reserved s _).mono ?_; rintro e w2 ⟨rfl, rfl⟩))
     all_goals
       go_ret
       refine ⟨ret_bool ?_, hb1⟩
       rw [HV.out]
       simp [*]
 · have h0' := toList_nil h0
   have h0'' : s.toList.isEmpty = true := by rw [h0']; rfl
   have HL := Lib.hid h0'
   clear h0'
   have HV : Hid (variableB s.toList = (nameErr s.toList == 0 && !reserved s.toList)) := by show _ = _; rw [HL.out]; rfl
   go_enter Tryz.func113, Tryz.ntmps113
   go_wp2_with (first | (go_at_call 114; refine (name_Check s _ hs).mono ?_; rintro e w1 ⟨rfl, hb1⟩) | (go_at_call 143; refine (tree_Reserved s _).mono ?_; rintro e w2 ⟨rfl, rfl⟩))
   all_goals
     go_ret
     refine ⟨ret_bool ?_, hb1⟩
     rw [HV.out]
     simp [*]
end Go.Proofs.YtbggbcnfkcadjaaGreatDoor
namespace Go.Proofs.YtbggbcnfkcadjaaGreatDoor
open Go.RowKit
set_option maxRecDepth 100000 in
set_option maxHeartbeats 4000000 in
theorem tree_shaped (op n : Int) (s t : ByteArray) (w : World) (hs : s.size ≤ 140737488351232) (ht : t.size ≤ 140737488351232) :
   Calls Tryz.prog 79 #[.agg #[.int .i64 op, .int .i64 n, .string s, .string t]] w fun e w' => e = .returned (.bool (shapedT ⟨op, n, s, t⟩)) ∧ Below w.heap.size w w' := by
 have hx : NdAt ((w.alloc (.cells #[.int .i64 op, .int .i64 n, .string s, .string t] 29)).alloc (.cells #[.int .i64 op, .int .i64 n, .string s, .string t] 29)) (w.heap.size + 1) 0 ⟨op, n, s, t⟩ := by
   constructor <;> simp [go_sem]
 have HX := Lib.hid hx
 clear hx
 go_enter Tryz.func79, Tryz.ntmps79
 go_wp2_with (first
   | (go_at_call 114; refine (name_Check _ _ hs).mono ?_; rintro e w1 ⟨rfl, hb1⟩)
   | (go_at_call 115; refine (name_Plain _ _ hs).mono ?_; rintro e w1 ⟨rfl, hb1⟩)
   | (go_at_call 113; refine (tree_variable _ _ hs).mono ?_; rintro e w1 ⟨rfl, hb1⟩)
   | (go_at_call 112; refine (val_Check1 ⟨op, n, s, t⟩ _ _ HX.out (by simp) hs ht).mono ?_; rintro e w1 ⟨rfl, hb1⟩)
   | (go_at_call 80; refine (tree_parts _ _ _ _ _).mono ?_; rintro e w1 ⟨rfl, hb1⟩; obtain ⟨hcc, hff⟩ := bcell hb1))
 all_goals
   go_ret
   refine ⟨ret_bool ?_, ?_⟩
   · simp only [beq_iff_eq, beq_eq_false_iff_ne] at *
     clear HX
     simp [shapedT, *]
     all_goals first | omega | (intros; omega) | (intros; subst_vars; assumption)
   · first
       | exact (Below.refl _ _).alloc (Nat.le_refl _) _
       | exact ((Below.refl _ _).alloc (Nat.le_refl _) _).trans (hb1.mono (by simp))
       | exact (((Below.refl _ _).alloc (Nat.le_refl _) _).alloc (by simp) _).trans (hb1.mono (by simp; omega))
end Go.Proofs.YtbggbcnfkcadjaaGreatDoor
