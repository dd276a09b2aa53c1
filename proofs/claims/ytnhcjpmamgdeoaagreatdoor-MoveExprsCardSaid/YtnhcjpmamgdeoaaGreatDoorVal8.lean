/-
  THE WALKS: the deferred closure of val.Check.
  THE WALKS: val.Check: for any nodes: what is wrong with a value.
-/
import Derived.Test.YtnhcjpmamgdeoaaGreatDoorVal5
import Derived.Test.YtnhcjpmamgdeoaaGreatDoorVal6
import Derived.Test.YtnhcjpmamgdeoaaGreatDoorP
namespace Go.Proofs.YtnhcjpmamgdeoaaGreatDoor
open Go.RowKit

theorem assert_wrong (w : World) : (Instr.typeAssert (.iface 111 (.agg #[])) 20 111 true).run Tryz.prog w = .ok (.tuple #[.agg #[], .bool true]) w := by kernel_rfl
set_option maxHeartbeats 800000 in
theorem chk_idle (p : Addr) (w : World) :
    CallsD Tryz.prog 61 #[.pointer (some p)] .returning w fun e u' w' => e = .returned (.tuple #[]) ∧ u' = .returning ∧ w' = w := by
  refine callsD_of_wpS Tryz.func61 rfl fun c₀ cs hu => ?_
  apply wpS_seq
  apply wpS_region
  simp [wpOpsS, go_sem, recoverD, hu, Tryz.ntmps61, Exit.thenS]
  refine wpS_of_wp ?_
  simp only [Array.replicate_succ, Array.replicate_zero, List.push_toArray, List.nil_append, List.cons_append]
  go_wp2
  cases c₀
  simp_all [bodyPostS, results, Tryz.results61]
set_option maxHeartbeats 800000 in
theorem chk_catch (p : Addr) (x : Value) (older : List PanicEntry) (w : World) (hc : w.cell? p = some x) (hz : w.frozen? p = false) :
    CallsD Tryz.prog 61 #[.pointer (some p)] (.panicking ({ v := .iface 111 (.agg #[]), recovered := false } :: older)) w fun e u' w' =>
      e = .returned (.tuple #[]) ∧ u' = .panicking ({ v := .iface 111 (.agg #[]), recovered := true } :: older) ∧ ∃ o, w' = (w.alloc o).setCell p (.iface 30 (.int .i64 1)) := by
  have hta := assert_wrong
  have hcw : (w.alloc (.cells #[] 111)).cell? p = some x := (World.cell?_alloc_lt w _ _ (World.block_lt_of_cell? w p hc)).trans hc
  have hzw : (w.alloc (.cells #[] 111)).frozen? p = false := (((Below.refl w.heap.size w).alloc (Nat.le_refl _) _).frozen (World.block_lt_of_cell? w p hc)).trans hz
  refine callsD_of_wpS Tryz.func61 rfl fun c₀ cs hu => ?_
  apply wpS_seq
  apply wpS_region
  simp [wpOpsS, go_sem, recoverD, hu, Tryz.ntmps61, Exit.thenS]
  refine wpS_of_wp ?_
  simp only [Array.replicate_succ, Array.replicate_zero, List.push_toArray, List.nil_append, List.cons_append]
  go_wp2
  simp [bodyPostS, results, Tryz.results61]
  exact ⟨_, rfl⟩
end Go.Proofs.YtnhcjpmamgdeoaaGreatDoor
namespace Go.Proofs.YtnhcjpmamgdeoaaGreatDoor
open Go.RowKit

theorem part_all (e : List Nd) : ∀ f i, PartOk e f i := by
  intro f
  induction f using Nat.strongRecOn with
  | _ f ih =>
    intro i
    by_cases hi : e.length ≤ i
    · exact part_out e f i hi
    · have hil : i < e.length := by omega
      cases f with
      | zero => intro w rb A c hf; omega
      | succ f =>
        have hx : e[i]? = some e[i] := List.getElem?_eq_getElem hil
        cases hsh : shapedV e[i] with
        | false => exact part_bad e f i _ hx hsh
        | true =>
          by_cases h5 : e[i].op = 5
          · exact part_set e f i _ hx hsh h5 (fun f' hf i' => ih f' (by omega) i')
          · by_cases h6 : e[i].op = 6
            · exact part_rec e f i _ hx hsh h6 (fun f' hf i' => ih f' (by omega) i')
            · by_cases h7 : e[i].op = 7
              · exact part_fld e f i _ hx hsh h7
              · exact part_leaf e f i _ hx hsh h5 h6 h7

set_option maxHeartbeats 1600000 in
theorem val_Check_big (e : List Nd) (A : Option Addr) (c : Nat) (w : World) (h : 200 < e.length) (hm : e.length ≤ 9223372036854775807) :
    Calls Tryz.prog 33 #[.slice A e.length c] w fun r w' => r = .returned (errV (valErr e)) ∧ Below w.heap.size w w' := by
  have hv : valErr e = 4 := by simp [valErr, h]
  rw [hv]
  clear hv
  have hmf : ∀ (fn : Fn) (first cap : Array Value) (w : World), (Instr.makeFunc fn first cap).run Tryz.prog w = .ok (.func fn first cap) w := fun _ _ _ _ => rfl
  go_enter_defers Tryz.func33, Tryz.ntmps33
  go_wp2
  simp [bodyPostD, Leaves, results, Tryz.results33, go_sem, errV]
  (repeat (first | assumption | exact Below.refl _ _ | apply Below.drew | apply below_drewN | (refine Below.alloc ?_ (by first | exact Nat.le_refl _ | omega | (simp; done) | (simp; omega)) _)))
set_option maxHeartbeats 1600000 in
theorem val_Check_go (e : List Nd) (A : Option Addr) (c : Nat) (w : World) (h : ¬ 200 < e.length) (hc : e.length ≤ c) (hcm : c ≤ 9223372036854775807) (hok : NdOk e) (hsl : NdSl w w.heap.size A e) :
    Calls Tryz.prog 33 #[.slice A e.length c] w fun r w' => r = .returned (errV (valErr e)) ∧ Below w.heap.size w w' := by
  have hmf : ∀ (fn : Fn) (first cap : Array Value) (w : World), (Instr.makeFunc fn first cap).run Tryz.prog w = .ok (.func fn first cap) w := fun _ _ _ _ => rfl
  have HB : Hid (Blk ((w.alloc (.cells #[.nilIface] 28)).alloc (.cells #[.slice A e.length c, .int .i64 0] 114)) (w.heap.size + 1) 114 (rdr A e.length c 0)) := by
    have := Blk.new (w.alloc (.cells #[.nilIface] 28)) 114 #[.slice A e.length c, .int .i64 0]
    rwa [World.size_alloc] at this
  have hcE : ((w.alloc (.cells #[.nilIface] 28)).alloc (.cells #[.slice A e.length c, .int .i64 0] 114)).cell? ⟨w.heap.size, 0, none⟩ = some .nilIface := by simp [go_sem]
  have hzE : ((w.alloc (.cells #[.nilIface] 28)).alloc (.cells #[.slice A e.length c, .int .i64 0] 114)).frozen? ⟨w.heap.size, 0, none⟩ = false := by simp [go_sem]
  have HC := Lib.hid hcE
  have HZ := Lib.hid hzE
  have hS : NdSl ((w.alloc (.cells #[.nilIface] 28)).alloc (.cells #[.slice A e.length c, .int .i64 0] 114)) (w.heap.size + 1) A e := by
    refine (hsl.below ?_).more (by omega)
    (repeat (first | assumption | exact Below.refl _ _ | apply Below.drew | apply below_drewN | (refine Below.alloc ?_ (by first | exact Nat.le_refl _ | omega | (simp; done) | (simp; omega)) _)))
  have HS := Lib.hid hS
  have hbw : Below w.heap.size w ((w.alloc (.cells #[.nilIface] 28)).alloc (.cells #[.slice A e.length c, .int .i64 0] 114)) := by (repeat (first | assumption | exact Below.refl _ _ | apply Below.drew | apply below_drewN | (refine Below.alloc ?_ (by first | exact Nat.le_refl _ | omega | (simp; done) | (simp; omega)) _)))
  have hsz : w.heap.size + 2 ≤ ((w.alloc (.cells #[.nilIface] 28)).alloc (.cells #[.slice A e.length c, .int .i64 0] 114)).heap.size := by simp
  clear hcE hzE hS hsl
  go_enter_defers Tryz.func33, Tryz.ntmps33
  go_wp2_with fail
  generalize ((w.alloc (.cells #[.nilIface] 28)).alloc (.cells #[.slice A e.length c, .int .i64 0] 114)) = w1 at HB HC HZ HS hbw hsz ⊢
  have hpo := part_all e (2 * e.length) 0 w1 (w.heap.size + 1) A c (by omega) (by omega) hc hcm hok HB.out HS.out
  have HP := Lib.hid hpo
  clear hpo
  cases hv : vGo e (2 * e.length) .one 0 with
  | none =>
    have HV : Hid (valErr e = 1) := by show _ = _; simp [valErr, h, hv]
    have HPN := Lib.hid (HP.out.2 hv)
    clear hv HP
    refine HPN.out.mono ?_
    rintro r w2 ⟨rfl, ho2⟩
    have hc2 : w2.cell? ⟨w.heap.size, 0, none⟩ = some .nilIface := (ho2.cell (p := ⟨w.heap.size, 0, none⟩) (by simp; omega) (by simp)).trans HC.out
    have hz2 : w2.frozen? ⟨w.heap.size, 0, none⟩ = false := (ho2.frozen (p := ⟨w.heap.size, 0, none⟩) (by simp; omega) (by simp)).trans HZ.out
    have hb2 : Below w.heap.size w w2 := hbw.trans (ho2.below (by omega) (by omega))
    go_wp2_with fail
    refine leaves_cons (f := 61) (args := #[.pointer (some ⟨w.heap.size, 0, none⟩)]) (by simp) (by simp [go_sem]) ?_
    refine (chk_catch ⟨w.heap.size, 0, none⟩ _ [] _ hc2 hz2).mono ?_
    rintro e' u' w'' ⟨rfl, rfl, o, rfl⟩
    have hcell : ((w2.alloc o).setCell ⟨w.heap.size, 0, none⟩ (.iface 30 (.int .i64 1))).cell? ⟨w.heap.size, 0, none⟩ = some (.iface 30 (.int .i64 1)) := World.cell?_setCell_same _ _ _ ((World.cell?_alloc_lt w2 _ _ (World.block_lt_of_cell? w2 _ hc2)).trans hc2)
    simp [Leaves, settle, results, Tryz.results33, go_sem, hcell]
    rw [HV.out]
    exact ⟨rfl, (hb2.alloc hb2.size _).setCell (Nat.le_refl _) _⟩
  | some j =>
    obtain ⟨hjl, _, _⟩ := vGo_bound e _ .one 0 j hv
    have hjl := hjl (by omega)
    have HPS := Lib.hid (HP.out.1 j hv)
    have HV : Hid (valErr e = if j = e.length then 0 else 1) := by show _ = _; simp [valErr, h, hv]
    clear hv HP
    refine HPS.out.mono ?_
    rintro r w2 ⟨A', c', rfl, hs2, hb2, ho2⟩
    have hc2 : w2.cell? ⟨w.heap.size, 0, none⟩ = some .nilIface := (ho2.cell (p := ⟨w.heap.size, 0, none⟩) (by simp; omega) (by simp)).trans HC.out
    have hz2 : w2.frozen? ⟨w.heap.size, 0, none⟩ = false := (ho2.frozen (p := ⟨w.heap.size, 0, none⟩) (by simp; omega) (by simp)).trans HZ.out
    have hbe2 : Below w.heap.size w w2 := hbw.trans (ho2.below (by omega) (by omega))
    have k1 : w2.cell? ⟨w.heap.size + 1, 1, none⟩ = some (.int .i64 j) := hb2.cell 1
    clear hs2
    by_cases hje : j < e.length
    · go_wp2_with fail
      refine leaves_cons (f := 61) (args := #[.pointer (some ⟨w.heap.size, 0, none⟩)]) (by simp) (by simp [go_sem]) ?_
      refine (chk_idle ⟨w.heap.size, 0, none⟩ _).mono ?_
      rintro e' u' w'' ⟨rfl, rfl, rfl⟩
      simp [Leaves, settle, results, Tryz.results33, go_sem, hc2]
      rw [HV.out, if_neg (by omega)]
      exact ⟨rfl, hbe2.setCell (Nat.le_refl _) _⟩
    · go_wp2_with fail
      refine leaves_cons (f := 61) (args := #[.pointer (some ⟨w.heap.size, 0, none⟩)]) (by simp) (by simp [go_sem]) ?_
      refine (chk_idle ⟨w.heap.size, 0, none⟩ _).mono ?_
      rintro e' u' w'' ⟨rfl, rfl, rfl⟩
      simp [Leaves, settle, results, Tryz.results33, go_sem, hc2]
      rw [HV.out, if_pos (by omega)]
      exact ⟨rfl, hbe2.setCell (Nat.le_refl _) _⟩

theorem val_Check (e : List Nd) (A : Option Addr) (c : Nat) (w : World) (hc : e.length ≤ c) (hcm : c ≤ 9223372036854775807) (hok : NdOk e) (hsl : NdSl w w.heap.size A e) :
    Calls Tryz.prog 33 #[.slice A e.length c] w fun r w' => r = .returned (errV (valErr e)) ∧ Below w.heap.size w w' := by
  by_cases h : 200 < e.length
  · exact val_Check_big e A c w h (by omega)
  · exact val_Check_go e A c w h hc hcm hok hsl

theorem val_Check1 (x : Nd) (b : Nat) (w : World) (hx : NdAt w b 0 x) (hb : b < w.heap.size) (hs : x.s.size ≤ 140737488351232) (ht : x.t.size ≤ 140737488351232) :
    Calls Tryz.prog 33 #[.slice (some ⟨b, 0, none⟩) 1 1] w fun r w' => r = .returned (errV (valErr [x])) ∧ Below w.heap.size w w' :=
  val_Check [x] (some ⟨b, 0, none⟩) 1 w (by simp) (by omega) (fun y hy => by simp at hy; subst hy; exact ⟨hs, ht⟩) (fun _ => ⟨b, 0, rfl, hb, fun i y hy => by
    match i, hy with
    | 0, hy => simp at hy; subst hy; exact hx⟩)
end Go.Proofs.YtnhcjpmamgdeoaaGreatDoor
