/-
  THE WALKS: the reader of a value's nodes, at a set.
-/
import Derived.Test.YtnhcjpmamgdeoaaGreatDoorVal4
namespace Go.Proofs.YtnhcjpmamgdeoaaGreatDoor
open Go.RowKit

/-- What a part of a value ends in, as one word. -/
def PPost (e : List Nd) (v : Option Nat) (i rb : Nat) (A : Option Addr) (c : Nat) (w : World) (r : Ending) (w' : World) : Prop :=
  (∀ j, v = some j → ∃ A' c', r = .returned (.slice A' (piece e i j).length c') ∧ NdSl w' rb A' (piece e i j) ∧ Blk w' rb 114 (rdr A e.length c j) ∧ Only w.heap.size rb w w') ∧
  (v = none → r = .panicked wrongV ∧ Only w.heap.size rb w w')
theorem PPost.no {e : List Nd} {v : Option Nat} {i rb : Nat} {A : Option Addr} {c : Nat} {w w' : World} (hv : v = none) (ho : Only w.heap.size rb w w') : PPost e v i rb A c w (.panicked wrongV) w' :=
  ⟨fun j hj => (by rw [hv] at hj; cases hj), fun _ => ⟨rfl, ho⟩⟩
/-- The slot 'last' of a set's loop. -/
def LastIs (wr : World) (rb : Nat) (k : Nat) (last : Option (List Nd)) (v : Value) : Prop :=
  match last with
  | none => k = 0
  | some l => 0 < k ∧ l.length ≤ 9223372036854775807 ∧ ∃ A c, v = .slice A l.length c ∧ NdSl wr rb A l

set_option maxRecDepth 100000 in
set_option maxHeartbeats 4000000 in
theorem part_set (e : List Nd) (f i : Nat) (x : Nd) (hx : e[i]? = some x) (hsh : shapedV x = true) (hop : x.op = 5) (ih : ∀ f', f' ≤ f → ∀ i', PartOk e f' i') : PartOk e (f + 1) i := by
  intro w rb A c hf hi hc hcm hok hblk hsl
  have hrb := hblk.lt
  have k0 : w.cell? ⟨rb, 0, none⟩ = some (.slice A e.length c) := hblk.cell 0
  have k1 : w.cell? ⟨rb, 1, none⟩ = some (.int .i64 i) := hblk.cell 1
  have z1 : w.frozen? ⟨rb, 1, none⟩ = false := hblk.frozen 1
  have hil : i < e.length := (List.getElem?_eq_some_iff.1 hx).1
  obtain ⟨b, o, rfl, hb, hcs⟩ := hsl.at_ hil
  obtain ⟨d0, d1, d2, d3⟩ := hcs i x hx
  obtain ⟨hxs, hxt⟩ := hok x (List.mem_of_getElem? hx)
  have hbw : b < w.heap.size := by omega
  have HX := Lib.hid hx
  have HB := Lib.hid hblk
  have HS := Lib.hid hsl
  have HOK := Lib.hid hok
  clear hx hblk hsl hcs hok
  have HV : Hid (vGo e (f + 1) .one i = vGo e f (.set x.n.toNat none) (i + 1)) := by
    have hn := HX.out
    show _ = _
    simp [vGo, hn, hsh, hop]
  have hxn : 0 ≤ x.n := by simp [shapedV, hop] at hsh; omega
  obtain ⟨N, hN⟩ := Int.eq_ofNat_of_zero_le hxn
  have HN := Lib.hid hN
  have HI := Lib.hid ih
  have p5 : (x.op == 5) = true := by simp [hop]
  clear hop ih hN
  rw [show x.n = (N : Int) from HN.out] at d1
  have hsh2 : shapedV ⟨x.op, (N : Int), x.s, x.t⟩ = true := by have := HN.out; simp only [← this]; exact hsh
  have hdl : decide (e.length ≤ i) = false := by simp; omega
  suffices hw : Calls Tryz.prog 62 #[.pointer (some ⟨rb, 0, none⟩)] w (PPost e (vGo e (f + 1) .one i) i rb (some ⟨b, o, none⟩) c w) from
    ⟨fun j hj => hw.mono fun _ _ p => p.1 j hj, fun hn => hw.mono fun _ _ p => p.2 hn⟩
  go_enter Tryz.func62, Tryz.ntmps62
  go_wp2_with (go_at_call 95; refine (val_shaped x.op _ x.s x.t _ hxs hxt).mono ?_; rintro r w1 ⟨rfl, hb1⟩; obtain ⟨hcc, hff⟩ := bcell hb1; have g1 : rb < w1.heap.size := Nat.lt_of_lt_of_le hrb hb1.size)
  have o1 : Only w.heap.size rb w w1 := Only.of_below hb1 (Nat.le_refl _)
  have hz1 := hb1.size
  have hilN : i + 1 ≤ e.length := by omega
  go_loopw [5, 53] (fun last kk wr => ∃ (k c2 fk a : Nat) (l : Option (List Nd)), kk = .int .i64 k ∧ k + c2 = N ∧ i + 1 ≤ a ∧ a ≤ e.length ∧ k ≤ a ∧ fk ≤ f ∧ 2 * (e.length - a) + 1 ≤ fk ∧
      Hid (vGo e f (.set N none) (i + 1) = vGo e fk (.set c2 l) a) ∧ Hid (LastIs wr rb k l last) ∧ Hid (Blk wr rb 114 (rdr (some ⟨b, o, none⟩) e.length c a)) ∧ Only w.heap.size rb w wr)
    (fun _ kk _ => N - (intOf kk).toNat)
  case atStart =>
    refine ⟨0, N, f, i + 1, none, rfl, by omega, by omega, by omega, by omega, by omega, by omega, rfl, rfl, ?_, ?_⟩
    · exact (rdr_step (HB.out.below hb1 hrb)).alloc _
    · (repeat (first | assumption | exact Only.refl _ _ _ | apply Only.drew | apply Only.drewN | (refine Only.alloc ?_ (by first | exact Nat.le_refl _ | omega | (simp; done) | (simp; omega)) _) | (refine Only.setCell ?_ (by first | exact .inl rfl | exact .inr (Nat.le_refl _) | exact .inr (by first | omega | (simp; omega))) _)))
  case round =>
    obtain ⟨k, c2, fk, a, l, rfl, hkc, hia, hal, hka, hff2, hfk, HK, HL, HBr, hor⟩ := hrel
    clear hcc hff
    have q0 : wr.cell? ⟨rb, 0, none⟩ = some (.slice (some ⟨b, o, none⟩) e.length c) := HBr.out.cell 0
    have q1 : wr.cell? ⟨rb, 1, none⟩ = some (.int .i64 a) := HBr.out.cell 1
    have hrw := HBr.out.lt
    by_cases hkN : k < N
    · obtain ⟨c3, rfl⟩ : ∃ c3, c2 = c3 + 1 := ⟨c2 - 1, by omega⟩
      obtain ⟨fk2, rfl⟩ : ∃ fk2, fk = fk2 + 1 := ⟨fk - 1, by omega⟩
      have hpo := HI.out fk2 (by omega) a wr rb (some ⟨b, o, none⟩) c (by omega) hal hc hcm HOK.out HBr.out (HS.out.only hor (Nat.le_of_lt hrb))
      have HP := Lib.hid hpo
      clear hpo
      cases hv : vGo e fk2 .one a with
      | none =>
        have HVN : Hid (vGo e (f + 1) .one i = none) := by
          show _ = _
          rw [HV.out, show x.n.toNat = N from by rw [HN.out]; rfl, HK.out]; simp [vGo, hv]
        have HPN := Lib.hid (HP.out.2 hv)
        clear hv HP
        go_wp2_with (go_at_call 62; refine HPN.out.mono ?_; rintro r w2 ⟨rfl, ho2⟩)
        exact ⟨rfl, PPost.no HVN.out (hor.trans (ho2.mono hor.size))⟩
      | some j =>
        obtain ⟨hjl, _, haj⟩ := vGo_bound e fk2 .one a j hv
        have hjl := hjl hal
        have haj := haj rfl
        have hpl := piece_le e a j
        have HPS := Lib.hid (HP.out.1 j hv)
        by_cases hk0 : k = 0
        · subst hk0
          have hln : l = none := by
            have := HL.out
            cases l with
            | none => rfl
            | some ll => have := this.1; omega
          have HK2 : Hid (vGo e f (.set N none) (i + 1) = vGo e fk2 (.set c3 (some (piece e a j))) j) := by
            show _ = _
            rw [HK.out, hln]; simp [vGo, hv, vLate]
          clear hv HP hln
          go_wp2_with (go_at_call 62; refine HPS.out.mono ?_; rintro r w2 ⟨A', c', rfl, hs2, hb2, ho2⟩)
          go_roundw
          case rel => exact ⟨1, c3, fk2, j, some (piece e a j), by go_num, by omega, by omega, by omega, by omega, by omega, by omega, HK2, ⟨by omega, by omega, A', c', rfl, hs2⟩, hb2, hor.trans (ho2.mono hor.size)⟩
          case measure => simp [intOf]; omega
        · have hls : ∃ ll, l = some ll ∧ ll.length ≤ 9223372036854775807 ∧ ∃ A c, u5 = .slice A ll.length c ∧ NdSl wr rb A ll := by
            have := HL.out
            cases l with
            | none => exact absurd this hk0
            | some ll => exact ⟨ll, rfl, this.2⟩
          obtain ⟨ll, hl, hlb, A1, c1, hu5, hs1⟩ := hls
          subst hl hu5
          have HS1 := Lib.hid hs1
          clear hs1
          by_cases hlate : 0 ≤ ndsCmp ll (piece e a j)
          · have HVN : Hid (vGo e (f + 1) .one i = none) := by
              show _ = _
              rw [HV.out, show x.n.toNat = N from by rw [HN.out]; rfl, HK.out]; simp [vGo, hv, vLate, hlate]
            clear hv HP
            go_wp2_with (first
              | (go_at_call 62; refine HPS.out.mono ?_; rintro r w2 ⟨A', c', rfl, hs2, hb2, ho2⟩)
              | (go_at_call 96; refine (val_order A1 _ _ _ ll (piece e a j) _ ((HS1.out.only ho2 (Nat.le_of_lt hrw)).more (Nat.le_of_lt hb2.lt)) (hs2.more (Nat.le_of_lt hb2.lt)) hlb (by omega)).mono ?_; rintro r w3 ⟨rfl, hb3⟩))
            exact ⟨rfl, PPost.no HVN.out ((hor.trans (ho2.mono hor.size)).trans (Only.of_below hb3 (Nat.le_trans hor.size ho2.size)))⟩
          · have HK2 : Hid (vGo e f (.set N none) (i + 1) = vGo e fk2 (.set c3 (some (piece e a j))) j) := by
              show _ = _
              rw [HK.out]; simp [vGo, hv, vLate, hlate]
            clear hv HP
            go_wp2_with (first
              | (go_at_call 62; refine HPS.out.mono ?_; rintro r w2 ⟨A', c', rfl, hs2, hb2, ho2⟩)
              | (go_at_call 96; refine (val_order A1 _ _ _ ll (piece e a j) _ ((HS1.out.only ho2 (Nat.le_of_lt hrw)).more (Nat.le_of_lt hb2.lt)) (hs2.more (Nat.le_of_lt hb2.lt)) hlb (by omega)).mono ?_; rintro r w3 ⟨rfl, hb3⟩))
            have ho3 := (hor.trans (ho2.mono hor.size)).trans (Only.of_below (g := rb) hb3 (Nat.le_trans hor.size ho2.size))
            go_roundw
            case rel => exact ⟨k + 1, c3, fk2, j, some (piece e a j), by go_num, by omega, by omega, by omega, by omega, by omega, by omega, HK2, ⟨by omega, by omega, A', c', rfl, hs2.keep (fun p hp => hb3.cell (by have := hb2.lt; omega))⟩, hb2.below hb3 hb2.lt, ho3⟩
            case measure => simp [intOf]; omega
    · obtain rfl : c2 = 0 := by omega
      obtain rfl : k = N := by omega
      have HVS : Hid (vGo e (f + 1) .one i = some a) := by
        show _ = _
        rw [HV.out, show x.n.toNat = k from by rw [HN.out]; rfl, HK.out]
        cases fk <;> simp [vGo]
      go_wp2_with fail
      go_quiet (fail)
      go_wp2
      go_ret
      refine ⟨fun j hj => ?_, fun hn => by have := HVS.out; rw [hn] at this; cases this⟩
      obtain rfl : a = j := by have := HVS.out; rw [hj] at this; injection this with this; exact this.symm
      refine ⟨some ⟨b, o + i * 4, none⟩, c - i, by rw [piece_len hal]; rfl, ?_, ?_, ?_⟩
      · exact ((HS.out.piece i a).only (hor.drewN _) (Nat.le_of_lt hrb))
      · exact HBr.out.drewN _
      · exact hor.drewN _
end Go.Proofs.YtnhcjpmamgdeoaaGreatDoor
