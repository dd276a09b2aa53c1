/-
 THE WALKS: the deferred closure of val.Check. THE WALKS: val.Check: for any nodes: what is wrong with a value.
 THE WALKS of package tree: parts. THE WALKS: tree.shaped.
 THE WALKS: tree.behind.
 THE WALKS: tree.Check, Skip, End.
 ARGUMENTS that are uids, scopes and policies, opened: what the row's reading says of memory.
 PLAIN WORDS: stores, requests, and what an expression's value is.
-/
import Derived.Test.YtpheiojmcafolaaGreatDoorSy06
import Derived.Test.YtpheiojmcafolaaGreatDoorSy07
import Derived.Test.YtpheiojmcafolaaGreatDoorSy01
import Derived.Test.YtpheiojmcafolaaGreatDoorSy02
import Derived.LoopN
import Derived.Test.YtpheiojmcafolaaGreatDoorSy04
namespace Go.Proofs.YtpheiojmcafolaaGreatDoor
open Go.RowKit
theorem assert_wrong (w : World) : (Instr.typeAssert (.iface 157 (.agg #[])) 20 157 true).run Tryz.prog w = .ok (.tuple #[.agg #[], .bool true]) w := by kernel_rfl
set_option maxHeartbeats 800000 in
theorem chk_idle (p : Addr) (w : World) :
 CallsD Tryz.prog 95 #[.pointer (some p)] .returning w fun e u' w' => e = .returned (.tuple #[]) ∧ u' = .returning ∧ w' = w := by
 refine callsD_of_wpS Tryz.func95 rfl fun c₀ cs hu => ?_;apply wpS_seq;apply wpS_region;simp [wpOpsS, go_sem, recoverD, hu, Tryz.ntmps95, Exit.thenS];refine wpS_of_wp ?_;simp only [Array.replicate_succ, Array.replicate_zero, List.push_toArray, List.nil_append, List.cons_append];go_wp2
 cases c₀
 simp_all [bodyPostS, results, Tryz.results95]
set_option maxHeartbeats 800000 in
theorem chk_catch (p : Addr) (x : Value) (older : List PanicEntry) (w : World) (hc : w.cell? p = some x) (hz : w.frozen? p = false) :
 CallsD Tryz.prog 95 #[.pointer (some p)] (.panicking ({ v := .iface 157 (.agg #[]), recovered := false } :: older)) w fun e u' w' =>
  e = .returned (.tuple #[]) ∧ u' = .panicking ({ v := .iface 157 (.agg #[]), recovered := true } :: older) ∧ ∃ o, w' = (w.alloc o).setCell p (.iface 96 (.int .i64 1)) := by
 have hta := assert_wrong;have hcw : (w.alloc (.cells #[] 157)).cell? p = some x := (World.cell?_alloc_lt w _ _ (World.block_lt_of_cell? w p hc)).trans hc;have hzw : (w.alloc (.cells #[] 157)).frozen? p = false := (((Below.refl w.heap.size w).alloc (Nat.le_refl _) _).frozen (World.block_lt_of_cell? w p hc)).trans hz;refine callsD_of_wpS Tryz.func95 rfl fun c₀ cs hu => ?_;apply wpS_seq;apply wpS_region;simp [wpOpsS, go_sem, recoverD, hu, Tryz.ntmps95, Exit.thenS];refine wpS_of_wp ?_;simp only [Array.replicate_succ, Array.replicate_zero, List.push_toArray, List.nil_append, List.cons_append];go_wp2
 simp [bodyPostS, results, Tryz.results95];exact ⟨_, rfl⟩
end Go.Proofs.YtpheiojmcafolaaGreatDoor
namespace Go.Proofs.YtpheiojmcafolaaGreatDoor
open Go.RowKit
theorem part_all (e : List Nd) : ∀ f i, PartOk e f i := by
 intro f;induction f using Nat.strongRecOn with
 | _ f ih =>
  intro i;by_cases hi : e.length ≤ i
  · exact part_out e f i hi
  · have hil : i < e.length := (by omega);cases f with
    | zero => intro w rb A c hf; omega
    | succ f =>
     have hx : e[i]? = some e[i] := List.getElem?_eq_getElem hil;cases hsh : shapedV e[i] with
     | false => exact part_bad e f i _ hx hsh
     | true =>
      by_cases h5 : e[i].op = 5
      · exact part_set e f i _ hx hsh h5 (fun f' hf i' => ih f' (by omega) i')
      · by_cases h6 : e[i].op = 6
        · exact part_rec e f i _ hx hsh h6 (fun f' hf i' => ih f' (by omega) i')
        · by_cases h7 : e[i].op = 7
          · exact part_fld e f i _ hx hsh h7
          · exact part_leaf e f i _ hx hsh h5 h6 h7
set_option maxHeartbeats 1600000 in
theorem val_Check_big (e : List Nd) (A : Option Addr) (c : Nat) (w : World) (h : 200 < e.length) (hm : e.length ≤ 9223372036854775807) :
 Calls Tryz.prog 63 #[.slice A e.length c] w fun r w' => r = .returned (errV (valErr e)) ∧ Below w.heap.size w w' := by
 have hv : valErr e = 4 := by simp [valErr, h]
 rw [hv];clear hv;have hmf : ∀ (fn : Fn) (first cap : Array Value) (w : World), (Instr.makeFunc fn first cap).run Tryz.prog w = .ok (.func fn first cap) w := fun _ _ _ _ => rfl;go_enter_defers Tryz.func63, Tryz.ntmps63
 go_wp2
 simp [bodyPostD, Leaves, results, Tryz.results63, go_sem, errV];(repeat (first | assumption | exact Below.refl _ _ | apply Below.drew | apply below_drewN | (refine Below.alloc ?_ (by first | exact Nat.le_refl _ | omega | (simp; done) | (simp; omega)) _)))
set_option maxHeartbeats 1600000 in
theorem val_Check_go (e : List Nd) (A : Option Addr) (c : Nat) (w : World) (h : ¬ 200 < e.length) (hc : e.length ≤ c) (hcm : c ≤ 9223372036854775807) (hok : NdOk e) (hsl : NdSl w w.heap.size A e) :
 Calls Tryz.prog 63 #[.slice A e.length c] w fun r w' => r = .returned (errV (valErr e)) ∧ Below w.heap.size w w' := by
 have hmf : ∀ (fn : Fn) (first cap : Array Value) (w : World), (Instr.makeFunc fn first cap).run Tryz.prog w = .ok (.func fn first cap) w := fun _ _ _ _ => rfl;have HB : Hid (Blk ((w.alloc (.cells #[.nilIface] 27)).alloc (.cells #[.slice A e.length c, .int .i64 0] 160)) (w.heap.size + 1) 160 (rdr A e.length c 0)) := by
  have := Blk.new (w.alloc (.cells #[.nilIface] 27)) 160 #[.slice A e.length c, .int .i64 0];rwa [World.size_alloc] at this
 have hcE : ((w.alloc (.cells #[.nilIface] 27)).alloc (.cells #[.slice A e.length c, .int .i64 0] 160)).cell? ⟨w.heap.size, 0, none⟩ = some .nilIface := by simp [go_sem]
 have hzE : ((w.alloc (.cells #[.nilIface] 27)).alloc (.cells #[.slice A e.length c, .int .i64 0] 160)).frozen? ⟨w.heap.size, 0, none⟩ = false := by simp [go_sem]
 have HC := Lib.hid hcE;have HZ := Lib.hid hzE;have hS : NdSl ((w.alloc (.cells #[.nilIface] 27)).alloc (.cells #[.slice A e.length c, .int .i64 0] 160)) (w.heap.size + 1) A e := by
  refine (hsl.below ?_).more (by omega);(repeat (first | assumption | exact Below.refl _ _ | apply Below.drew | apply below_drewN | (refine Below.alloc ?_ (by first | exact Nat.le_refl _ | omega | (simp; done) | (simp; omega)) _)))
 have HS := Lib.hid hS;have hbw : Below w.heap.size w ((w.alloc (.cells #[.nilIface] 27)).alloc (.cells #[.slice A e.length c, .int .i64 0] 160)) := by (repeat (first | assumption | exact Below.refl _ _ | apply Below.drew | apply below_drewN | (refine Below.alloc ?_ (by first | exact Nat.le_refl _ | omega | (simp; done) | (simp; omega)) _)))
 have hsz : w.heap.size + 2 ≤ ((w.alloc (.cells #[.nilIface] 27)).alloc (.cells #[.slice A e.length c, .int .i64 0] 160)).heap.size := by simp
 clear hcE hzE hS hsl;go_enter_defers Tryz.func63, Tryz.ntmps63
 go_wp2_with fail
 generalize ((w.alloc (.cells #[.nilIface] 27)).alloc (.cells #[.slice A e.length c, .int .i64 0] 160)) = w1 at HB HC HZ HS hbw hsz ⊢;have hpo := part_all e (2 * e.length) 0 w1 (w.heap.size + 1) A c (by omega) (by omega) hc hcm hok HB.out HS.out;have HP := Lib.hid hpo;clear hpo;cases hv : vGo e (2 * e.length) .one 0 with
 | none =>
  have HV : Hid (valErr e = 1) := by show _ = _; simp [valErr, h, hv]
  have HPN := Lib.hid (HP.out.2 hv);clear hv HP;refine HPN.out.mono ?_;rintro r w2 ⟨rfl, ho2⟩;have hc2 : w2.cell? ⟨w.heap.size, 0, none⟩ = some .nilIface := (ho2.cell (p := ⟨w.heap.size, 0, none⟩) (by simp; omega) (by simp)).trans HC.out;have hz2 : w2.frozen? ⟨w.heap.size, 0, none⟩ = false := (ho2.frozen (p := ⟨w.heap.size, 0, none⟩) (by simp; omega) (by simp)).trans HZ.out;have hb2 : Below w.heap.size w w2 := hbw.trans (ho2.below (by omega) (by omega));go_wp2_with fail
  refine leaves_cons (f := 95) (args := #[.pointer (some ⟨w.heap.size, 0, none⟩)]) (by simp) (by simp [go_sem]) ?_;refine (chk_catch ⟨w.heap.size, 0, none⟩ _ [] _ hc2 hz2).mono ?_;rintro e' u' w'' ⟨rfl, rfl, o, rfl⟩;have hcell : ((w2.alloc o).setCell ⟨w.heap.size, 0, none⟩ (.iface 96 (.int .i64 1))).cell? ⟨w.heap.size, 0, none⟩ = some (.iface 96 (.int .i64 1)) := World.cell?_setCell_same _ _ _ ((World.cell?_alloc_lt w2 _ _ (World.block_lt_of_cell? w2 _ hc2)).trans hc2);simp [Leaves, settle, results, Tryz.results63, go_sem, hcell];rw [HV.out];exact ⟨rfl, (hb2.alloc hb2.size _).setCell (Nat.le_refl _) _⟩
 | some j =>
  obtain ⟨hjl, _, _⟩ := vGo_bound e _ .one 0 j hv;have hjl := hjl (by omega);have HPS := Lib.hid (HP.out.1 j hv);have HV : Hid (valErr e = if j = e.length then 0 else 1) := by show _ = _; simp [valErr, h, hv]
  clear hv HP;refine HPS.out.mono ?_;rintro r w2 ⟨A', c', rfl, hs2, hb2, ho2⟩;have hc2 : w2.cell? ⟨w.heap.size, 0, none⟩ = some .nilIface := (ho2.cell (p := ⟨w.heap.size, 0, none⟩) (by simp; omega) (by simp)).trans HC.out;have hz2 : w2.frozen? ⟨w.heap.size, 0, none⟩ = false := (ho2.frozen (p := ⟨w.heap.size, 0, none⟩) (by simp; omega) (by simp)).trans HZ.out;have hbe2 : Below w.heap.size w w2 := hbw.trans (ho2.below (by omega) (by omega));have k1 : w2.cell? ⟨w.heap.size + 1, 1, none⟩ = some (.int .i64 j) := hb2.cell 1;clear hs2;by_cases hje : j < e.length
  · go_wp2_with fail
    refine leaves_cons (f := 95) (args := #[.pointer (some ⟨w.heap.size, 0, none⟩)]) (by simp) (by simp [go_sem]) ?_;refine (chk_idle ⟨w.heap.size, 0, none⟩ _).mono ?_;rintro e' u' w'' ⟨rfl, rfl, rfl⟩;simp [Leaves, settle, results, Tryz.results63, go_sem, hc2];rw [HV.out, if_neg (by omega)];exact ⟨rfl, hbe2.setCell (Nat.le_refl _) _⟩
  · go_wp2_with fail
    refine leaves_cons (f := 95) (args := #[.pointer (some ⟨w.heap.size, 0, none⟩)]) (by simp) (by simp [go_sem]) ?_;refine (chk_idle ⟨w.heap.size, 0, none⟩ _).mono ?_;rintro e' u' w'' ⟨rfl, rfl, rfl⟩;simp [Leaves, settle, results, Tryz.results63, go_sem, hc2];rw [HV.out, if_pos (by omega)];exact ⟨rfl, hbe2.setCell (Nat.le_refl _) _⟩
theorem val_Check (e : List Nd) (A : Option Addr) (c : Nat) (w : World) (hc : e.length ≤ c) (hcm : c ≤ 9223372036854775807) (hok : NdOk e) (hsl : NdSl w w.heap.size A e) :
 Calls Tryz.prog 63 #[.slice A e.length c] w fun r w' => r = .returned (errV (valErr e)) ∧ Below w.heap.size w w' := by
 by_cases h : 200 < e.length
 · exact val_Check_big e A c w h (by omega)
 · exact val_Check_go e A c w h hc hcm hok hsl
theorem val_Check1 (x : Nd) (b : Nat) (w : World) (hx : NdAt w b 0 x) (hb : b < w.heap.size) (hs : x.s.size ≤ 140737488351232) (ht : x.t.size ≤ 140737488351232) :
 Calls Tryz.prog 63 #[.slice (some ⟨b, 0, none⟩) 1 1] w fun r w' => r = .returned (errV (valErr [x])) ∧ Below w.heap.size w w' :=
 val_Check [x] (some ⟨b, 0, none⟩) 1 w (by simp) (by omega) (fun y hy => by simp at hy; subst hy; exact ⟨hs, ht⟩) (fun _ => ⟨b, 0, rfl, hb, fun i y hy => by
  match i, hy with
  | 0, hy => simp at hy; subst hy; exact hx⟩)
end Go.Proofs.YtpheiojmcafolaaGreatDoor
namespace Go.Proofs.YtpheiojmcafolaaGreatDoor
open Go.RowKit
set_option maxHeartbeats 1600000 in
theorem tree_parts (op n : Int) (s t : ByteArray) (w : World) :
 Calls Tryz.prog 106 #[.agg #[.int .i64 op, .int .i64 n, .string s, .string t]] w fun e w' => e = .returned (.int .i64 (ndParts ⟨op, n, s, t⟩)) ∧ Below w.heap.size w w' := by
 go_enter Tryz.func106, Tryz.ntmps106
 go_wp2
 all_goals
  go_ret
  refine ⟨ret_int ?_, (Below.refl _ _).alloc (Nat.le_refl _) _⟩;simp only [beq_iff_eq, beq_eq_false_iff_ne] at *;simp [ndParts, *]
set_option maxHeartbeats 1600000 in
theorem tree_Reserved (s : ByteArray) (w : World) :
 Calls Tryz.prog 168 #[.string s] w fun e w' => e = .returned (.bool (reserved s.toList)) ∧ w = w' := by
 go_enter Tryz.func168, Tryz.ntmps168
 go_wp2
 all_goals
  go_ret
  refine ⟨ret_bool ?_, rfl⟩;first | (simp [reserved, *]; done) | simp_all
set_option maxHeartbeats 1600000 in
theorem tree_variable (s : ByteArray) (w : World) (hs : s.size ≤ 140737488351232) :
 Calls Tryz.prog 139 #[.string s] w fun e w' => e = .returned (.bool (variableB s.toList)) ∧ Below w.heap.size w w' := by
 by_cases h0 : 0 < s.size
 · have h0' : s.toList.isEmpty = false := toList_ne h0;obtain ⟨l, hl0⟩ := toList_cons h0;have HL := Lib.hid hl0;have hx := extract_one s;have HX : Hid ((s.extract 1 s.size).toList = l) := by rw [hl0] at hx; exact hx
   have hxs := extract_size s;have HXS := Lib.hid hxs;clear hl0 hx hxs;by_cases hq : s[0] = 63
   · have hqi : ((s[0].toNat : Int) == 63) = true := (by rw [hq]; rfl);go_enter Tryz.func139, Tryz.ntmps139
     go_wp2_with (go_at_call 65; refine (name_Check _ _ (by have := HXS.out; omega)).mono ?_; rintro e w1 ⟨rfl, hb1⟩)
     go_ret
     exact ⟨ret_bool (by rw [HX.out, HL.out]; simp [variableB, hq]), hb1⟩
   · have hqi : ((s[0].toNat : Int) == 63) = false := by
      rw [beq_eq_false_iff_ne]; intro hc; apply hq; apply UInt8.toNat_inj.1; simp; omega
     have HV : Hid (variableB s.toList = (nameErr s.toList == 0 && !reserved s.toList)) := (by show _ = _; rw [HL.out]; simp [variableB, hq]);go_enter Tryz.func139, Tryz.ntmps139
     go_wp2_with (first | (go_at_call 65; refine (name_Check s _ hs).mono ?_; rintro e w1 ⟨rfl, hb1⟩) | (go_at_call 168; refine (tree_Reserved s _).mono ?_; rintro e w2 ⟨rfl, rfl⟩))
     all_goals
      go_ret
      refine ⟨ret_bool ?_, hb1⟩;rw [HV.out];simp [*]
 · have h0' := toList_nil h0;have h0'' : s.toList.isEmpty = true := by rw [h0']; rfl
   have HL := Lib.hid h0';clear h0';have HV : Hid (variableB s.toList = (nameErr s.toList == 0 && !reserved s.toList)) := by show _ = _; rw [HL.out]; rfl
   go_enter Tryz.func139, Tryz.ntmps139
   go_wp2_with (first | (go_at_call 65; refine (name_Check s _ hs).mono ?_; rintro e w1 ⟨rfl, hb1⟩) | (go_at_call 168; refine (tree_Reserved s _).mono ?_; rintro e w2 ⟨rfl, rfl⟩))
   all_goals
    go_ret
    refine ⟨ret_bool ?_, hb1⟩;rw [HV.out];simp [*]
end Go.Proofs.YtpheiojmcafolaaGreatDoor
namespace Go.Proofs.YtpheiojmcafolaaGreatDoor
open Go.RowKit
set_option maxRecDepth 100000 in
set_option maxHeartbeats 4000000 in
theorem tree_shaped (op n : Int) (s t : ByteArray) (w : World) (hs : s.size ≤ 140737488351232) (ht : t.size ≤ 140737488351232) :
 Calls Tryz.prog 105 #[.agg #[.int .i64 op, .int .i64 n, .string s, .string t]] w fun e w' => e = .returned (.bool (shapedT ⟨op, n, s, t⟩)) ∧ Below w.heap.size w w' := by
 have hx : NdAt ((w.alloc (.cells #[.int .i64 op, .int .i64 n, .string s, .string t] 37)).alloc (.cells #[.int .i64 op, .int .i64 n, .string s, .string t] 37)) (w.heap.size + 1) 0 ⟨op, n, s, t⟩ := by
  constructor <;> simp [go_sem]
 have HX := Lib.hid hx;clear hx;go_enter Tryz.func105, Tryz.ntmps105
 go_wp2_with (first
  | (go_at_call 65; refine (name_Check _ _ hs).mono ?_; rintro e w1 ⟨rfl, hb1⟩)
  | (go_at_call 125; refine (name_Plain _ _ hs).mono ?_; rintro e w1 ⟨rfl, hb1⟩)
  | (go_at_call 139; refine (tree_variable _ _ hs).mono ?_; rintro e w1 ⟨rfl, hb1⟩)
  | (go_at_call 63; refine (val_Check1 ⟨op, n, s, t⟩ _ _ HX.out (by simp) hs ht).mono ?_; rintro e w1 ⟨rfl, hb1⟩)
  | (go_at_call 106; refine (tree_parts _ _ _ _ _).mono ?_; rintro e w1 ⟨rfl, hb1⟩; obtain ⟨hcc, hff⟩ := bcell hb1))
 all_goals
  go_ret
  refine ⟨ret_bool ?_, ?_⟩
  · simp only [beq_iff_eq, beq_eq_false_iff_ne] at *;clear HX;simp [shapedT, *];all_goals first | omega | (intros; omega) | (intros; subst_vars; assumption)
  · first
     | exact (Below.refl _ _).alloc (Nat.le_refl _) _
     | exact ((Below.refl _ _).alloc (Nat.le_refl _) _).trans (hb1.mono (by simp))
     | exact (((Below.refl _ _).alloc (Nat.le_refl _) _).alloc (by simp) _).trans (hb1.mono (by simp; omega))
end Go.Proofs.YtpheiojmcafolaaGreatDoor
namespace Go.Proofs.YtpheiojmcafolaaGreatDoor
open Go.RowKit
def BehOk (e : List Nd) (f i : Nat) : Prop := ∀ (w : World) (A : Option Addr) (c : Nat) (fld : Bool), 2 * (e.length - i) ≤ f → e.length ≤ c → c ≤ 9223372036854775807 → i ≤ 9223372036854775807 → NdOk e → NdSl w w.heap.size A e →
 Calls Tryz.prog 84 #[.slice A e.length c, .int .i64 i, .bool fld] w fun r w' => r = .returned (.int .i64 (bVal (bGo e f (.one fld) i))) ∧ Below w.heap.size w w'
set_option maxRecDepth 100000 in
set_option maxHeartbeats 4000000 in
theorem beh_out (e : List Nd) (f i : Nat) (h : e.length ≤ i) : BehOk e f i := by
 intro w A c fld hf hc hcm him hok hsl;have HV : Hid (bGo e f (.one fld) i = none) := by
  show _ = _;cases f <;> simp [bGo, List.getElem?_eq_none h]
 go_enter Tryz.func84, Tryz.ntmps84
 go_wp2_with fail
 go_ret
 exact ⟨ret_int (by rw [HV.out]; rfl), Below.refl _ _⟩
set_option maxRecDepth 100000 in
set_option maxHeartbeats 4000000 in
theorem beh_bad (e : List Nd) (f i : Nat) (x : Nd) (hx : e[i]? = some x) (hsh : shapedT x = false) : BehOk e (f + 1) i := by
 intro w A c fld hf hc hcm him hok hsl;have hil : i < e.length := (List.getElem?_eq_some_iff.1 hx).1;obtain ⟨b, o, rfl, hb, hcs⟩ := hsl.at_ hil;obtain ⟨d0, d1, d2, d3⟩ := hcs i x hx;obtain ⟨hxs, hxt⟩ := hok x (List.mem_of_getElem? hx);have HV : Hid (bGo e (f + 1) (.one fld) i = none) := by show _ = _; simp [bGo, hx, hsh]
 clear hcs hok hsl hx;go_enter Tryz.func84, Tryz.ntmps84
 go_wp2_with (go_at_call 105; refine (tree_shaped x.op x.n x.s x.t _ hxs hxt).mono ?_; rintro r w1 ⟨rfl, hb1⟩)
 go_ret
 exact ⟨ret_int (by rw [HV.out]; rfl), hb1⟩
set_option maxRecDepth 100000 in
set_option maxHeartbeats 4000000 in
theorem beh_no (e : List Nd) (f i : Nat) (x : Nd) (hx : e[i]? = some x) (hsh : shapedT x = true) (w : World) (A : Option Addr) (c : Nat) (fld : Bool) (hfld : (x.op == 7) ≠ fld)
 (_hf : 2 * (e.length - i) ≤ f + 1) (_hc : e.length ≤ c) (_hcm : c ≤ 9223372036854775807) (_him : i ≤ 9223372036854775807) (hok : NdOk e) (hsl : NdSl w w.heap.size A e) :
 Calls Tryz.prog 84 #[.slice A e.length c, .int .i64 i, .bool fld] w fun r w' => r = .returned (.int .i64 (bVal (bGo e (f + 1) (.one fld) i))) ∧ Below w.heap.size w w' := by
 have hil : i < e.length := (List.getElem?_eq_some_iff.1 hx).1;obtain ⟨b, o, rfl, hb, hcs⟩ := hsl.at_ hil;obtain ⟨d0, d1, d2, d3⟩ := hcs i x hx;obtain ⟨hxs, hxt⟩ := hok x (List.mem_of_getElem? hx);have HV : Hid (bGo e (f + 1) (.one fld) i = none) := by show _ = _; simp [bGo, hx, hsh, hfld]
 clear hcs hok hsl hx;cases fld with
 | false =>
  have p7 : (x.op == 7) = true := by simpa using hfld
  clear hfld;go_enter Tryz.func84, Tryz.ntmps84
  go_wp2_with (go_at_call 105; refine (tree_shaped x.op x.n x.s x.t _ hxs hxt).mono ?_; rintro r w1 ⟨rfl, hb1⟩; obtain ⟨hcc, hff⟩ := bcell hb1)
  go_ret
  exact ⟨ret_int (by rw [HV.out]; rfl), hb1⟩
 | true =>
  have p7 : (x.op == 7) = false := by simpa using hfld
  clear hfld;go_enter Tryz.func84, Tryz.ntmps84
  go_wp2_with (go_at_call 105; refine (tree_shaped x.op x.n x.s x.t _ hxs hxt).mono ?_; rintro r w1 ⟨rfl, hb1⟩; obtain ⟨hcc, hff⟩ := bcell hb1)
  go_ret
  exact ⟨ret_int (by rw [HV.out]; rfl), hb1⟩
set_option maxRecDepth 100000 in
set_option maxHeartbeats 4000000 in
theorem beh_yes (e : List Nd) (f i : Nat) (x : Nd) (hx : e[i]? = some x) (hsh : shapedT x = true) (ih : ∀ f', f' ≤ f → ∀ i', BehOk e f' i') (w : World) (A : Option Addr) (c : Nat) (fld : Bool) (hfld : (x.op == 7) = fld)
 (hf : 2 * (e.length - i) ≤ f + 1) (hc : e.length ≤ c) (hcm : c ≤ 9223372036854775807) (him : i ≤ 9223372036854775807) (hok : NdOk e) (hsl : NdSl w w.heap.size A e) :
 Calls Tryz.prog 84 #[.slice A e.length c, .int .i64 i, .bool fld] w fun r w' => r = .returned (.int .i64 (bVal (bGo e (f + 1) (.one fld) i))) ∧ Below w.heap.size w w' := by
 have hil : i < e.length := (List.getElem?_eq_some_iff.1 hx).1;obtain ⟨b, o, rfl, hb, hcs⟩ := hsl.at_ hil;obtain ⟨d0, d1, d2, d3⟩ := hcs i x hx;obtain ⟨hxs, hxt⟩ := hok x (List.mem_of_getElem? hx);have HV : Hid (bGo e (f + 1) (.one fld) i = bGo e f (.more (ndParts x).toNat (x.op == 6) ⟨#[]⟩) (i + 1)) := by show _ = _; simp [bGo, hx, hsh, hfld]
 have HS := Lib.hid hsl;have HOK := Lib.hid hok;have HI := Lib.hid ih;have hdl : decide (e.length ≤ i) = false := by simp; omega
 have hdi : decide ((i : Int) < 0) = false := by simp
 obtain ⟨P, hP⟩ := Int.eq_ofNat_of_zero_le (shapedT_parts x hsh);have htp : ∀ W, Calls Tryz.prog 106 #[.agg #[.int .i64 x.op, .int .i64 x.n, .string x.s, .string x.t]] W fun e w' => e = .returned (.int .i64 (P : Int)) ∧ Below W.heap.size W w' := fun W => by
  rw [← hP]; exact tree_parts x.op x.n x.s x.t W
 have HTP := Lib.hid htp;have HPP : Hid ((ndParts x).toNat = P) := by show _ = _; rw [hP]; rfl
 clear hcs hok hsl hx ih htp hP;subst hfld;go_enter Tryz.func84, Tryz.ntmps84
 go_wp2_with (first
  | (go_at_call 105; refine (tree_shaped x.op x.n x.s x.t _ hxs hxt).mono ?_; rintro r w1 ⟨rfl, hb1⟩; obtain ⟨hcc, hff⟩ := bcell hb1)
  | (go_at_call 106; refine (HTP.out _).mono ?_; rintro r w2 ⟨rfl, hb2⟩))
 have hz1 := hb1.size;have hz2 : w1.heap.size + 1 ≤ w2.heap.size := by have := hb2.size; simpa using this
 have hw2 : Below w.heap.size w w2 := (hb1.alloc hb1.size _).trans (hb2.mono (by simp; omega));have hn2 : w2.cell? ⟨w1.heap.size, 0, none⟩ = some (.int .i64 x.op) := by rw [hb2.cell (p := ⟨w1.heap.size, 0, none⟩) (by simp)]; simp [go_sem]
 have HN2 := Lib.hid hn2;clear hn2 hcc hff;go_loopw [1, 8, 43] (fun at_ last kk wr => ∃ (k c2 fk a : Nat) (l : ByteArray), at_ = .int .i64 a ∧ kk = .int .i64 k ∧ last = .string l ∧ k + c2 = P ∧ i + 1 ≤ a ∧ a ≤ e.length ∧ k ≤ a ∧ fk ≤ f ∧ 2 * (e.length - a) + 1 ≤ fk ∧
  Hid (bGo e f (.more P (x.op == 6) ⟨#[]⟩) (i + 1) = bGo e fk (.more c2 (x.op == 6) l) a) ∧ Below w2.heap.size w2 wr)
  (fun _ _ kk _ => P - (intOf kk).toNat)
 case atStart => exact ⟨0, P, f, i + 1, ⟨#[]⟩, by go_num, rfl, rfl, by omega, by omega, by omega, by omega, by omega, by omega, rfl, Below.refl _ _⟩
 case round =>
  obtain ⟨k, c2, fk, a, l, rfl, rfl, rfl, hkc, hia, hal, hka, hff2, hfk, HK, hbr⟩ := hrel;have hzr := hbr.size;have hnr : wr.cell? ⟨w1.heap.size, 0, none⟩ = some (.int .i64 x.op) := (hbr.cell (p := ⟨w1.heap.size, 0, none⟩) (by simp; omega)).trans HN2.out;have hwr : Below w.heap.size w wr := hw2.trans (hbr.mono (by omega));by_cases hkP : k < P
  · obtain ⟨c3, rfl⟩ : ∃ c3, c2 = c3 + 1 := ⟨c2 - 1, by omega⟩;obtain ⟨fk2, rfl⟩ : ∃ fk2, fk = fk2 + 1 := ⟨fk - 1, by omega⟩;by_cases hae : e.length ≤ a
    · have HVN : Hid (bGo e (f + 1) (.one (x.op == 7)) i = none) := by
       show _ = _;rw [HV.out, HPP.out, HK.out]; simp [bGo, List.getElem?_eq_none hae]
      go_wp2_with fail
      go_ret
      exact ⟨ret_int (by rw [HVN.out]; rfl), hwr⟩
    · have hal2 : a < e.length := (by omega);obtain ⟨m, hm⟩ : ∃ m, e[a]? = some m := ⟨_, List.getElem?_eq_getElem hal2⟩;have hcs : ∀ i x, e[i]? = some x → NdAt wr b (o + i * 4) x := by
       obtain ⟨b', o', h1, _, h2⟩ := (HS.out.below hwr).at_ hal2;injection h1 with h1; injection h1 with h1 h3; subst h1 h3; exact h2
      obtain ⟨m0, m1, m2, m3⟩ := hcs a m hm;have HM := Lib.hid hm;have hih := fun (W : World) (r : Bool) (hW : Below wr.heap.size wr W) => HI.out fk2 (by omega) a W (some ⟨b, o, none⟩) c r (by omega) hc hcm (by omega) HOK.out (((HS.out.below hwr).below (hW.mono (by have := hwr.size; omega))).more (Nat.le_trans hwr.size hW.size));have HIH := Lib.hid hih;clear hcs hm hih m1 m3 m0;cases hr : (x.op == 6) with
      | true =>
       by_cases hlate : sLate l m.s = true
       · have HVN : Hid (bGo e (f + 1) (.one (x.op == 7)) i = none) := by
          have h1 := HM.out;show _ = _;rw [HV.out, HPP.out, HK.out, hr]; simp [bGo, h1, hlate]
         unfold sLate at hlate;go_wp2_with fail
         go_ret
         exact ⟨ret_int (by rw [HVN.out]; rfl), hwr⟩
       · have hlate : sLate l m.s = false := (by simpa using hlate);have HK2 : ∀ v, bGo e fk2 (.one true) a = v → Hid (bGo e (f + 1) (.one (x.op == 7)) i = match v with | none => none | some j => bGo e fk2 (.more c3 true m.s) j) := by
          intro v hv;have h1 := HM.out;show _ = _;rw [HV.out, HPP.out, HK.out, hr]; simp [bGo, h1, hv, hlate];cases v <;> rfl
         have HK3 := Lib.hid HK2;clear HK2;unfold sLate at hlate;cases hv : bGo e fk2 (.one true) a with
         | none =>
          have HC : ∀ W, Below wr.heap.size wr W → Calls Tryz.prog 84 #[.slice (some ⟨b, o, none⟩) e.length c, .int .i64 a, .bool true] W fun r w' => r = .returned (.int .i64 (-1)) ∧ Below W.heap.size W w' := fun W hW => by
           have := HIH.out W true hW; rw [hv] at this; exact this
          have HC2 := Lib.hid HC;have HVN := HK3.out none hv;clear HC hv;go_wp2_with (go_at_call 84; refine (HC2.out _ (Below.refl _ _)).mono ?_; rintro r w3 ⟨rfl, hb3⟩)
          go_ret
          exact ⟨ret_int (by rw [HVN.out]; rfl), hwr.trans (hb3.mono hwr.size)⟩
         | some j =>
          obtain ⟨hjl, _, haj⟩ := bGo_bound e fk2 (.one true) a j hv;have hjl := hjl hal;have haj := haj _ rfl;have HC : ∀ W, Below wr.heap.size wr W → Calls Tryz.prog 84 #[.slice (some ⟨b, o, none⟩) e.length c, .int .i64 a, .bool true] W fun r w' => r = .returned (.int .i64 (j : Int)) ∧ Below W.heap.size W w' := fun W hW => by
           have := HIH.out W true hW; rw [hv] at this; exact this
          have HC2 := Lib.hid HC;have HKN : Hid (bGo e f (.more P true ⟨#[]⟩) (i + 1) = bGo e fk2 (.more c3 true m.s) j) := by
           have := HK3.out _ hv;have h3 := HV.out;rw [HPP.out, hr] at h3;exact h3.symm.trans this
          clear HC hv;go_wp2_with (go_at_call 84; refine (HC2.out _ (Below.refl _ _)).mono ?_; rintro r w3 ⟨rfl, hb3⟩)
          go_roundw
          case rel => exact ⟨k + 1, c3, fk2, j, m.s, rfl, by go_num, rfl, by omega, by omega, by omega, by omega, by omega, by omega, HKN, hbr.trans (hb3.mono hbr.size)⟩
          case measure => simp [intOf]; omega
      | false =>
       have HK2 : ∀ v, bGo e fk2 (.one false) a = v → Hid (bGo e (f + 1) (.one (x.op == 7)) i = match v with | none => none | some j => bGo e fk2 (.more c3 false l) j) := by
        intro v hv;have h1 := HM.out;show _ = _;rw [HV.out, HPP.out, HK.out, hr]; simp [bGo, h1, hv];cases v <;> rfl
       have HK3 := Lib.hid HK2;clear HK2;cases hv : bGo e fk2 (.one false) a with
       | none =>
        have HC : ∀ W, Below wr.heap.size wr W → Calls Tryz.prog 84 #[.slice (some ⟨b, o, none⟩) e.length c, .int .i64 a, .bool false] W fun r w' => r = .returned (.int .i64 (-1)) ∧ Below W.heap.size W w' := fun W hW => by
         have := HIH.out W false hW; rw [hv] at this; exact this
        have HC2 := Lib.hid HC;have HVN := HK3.out none hv;clear HC hv;go_wp2_with (go_at_call 84; refine (HC2.out _ (Below.refl _ _)).mono ?_; rintro r w3 ⟨rfl, hb3⟩)
        go_ret
        exact ⟨ret_int (by rw [HVN.out]; rfl), hwr.trans (hb3.mono hwr.size)⟩
       | some j =>
        obtain ⟨hjl, _, haj⟩ := bGo_bound e fk2 (.one false) a j hv;have hjl := hjl hal;have haj := haj _ rfl;have HC : ∀ W, Below wr.heap.size wr W → Calls Tryz.prog 84 #[.slice (some ⟨b, o, none⟩) e.length c, .int .i64 a, .bool false] W fun r w' => r = .returned (.int .i64 (j : Int)) ∧ Below W.heap.size W w' := fun W hW => by
         have := HIH.out W false hW; rw [hv] at this; exact this
        have HC2 := Lib.hid HC;have HKN : Hid (bGo e f (.more P false ⟨#[]⟩) (i + 1) = bGo e fk2 (.more c3 false l) j) := by
         have := HK3.out _ hv;have h3 := HV.out;rw [HPP.out, hr] at h3;exact h3.symm.trans this
        clear HC hv;go_wp2_with (go_at_call 84; refine (HC2.out _ (Below.refl _ _)).mono ?_; rintro r w3 ⟨rfl, hb3⟩)
        go_roundw
        case rel => exact ⟨k + 1, c3, fk2, j, l, rfl, by go_num, rfl, by omega, by omega, by omega, by omega, by omega, by omega, HKN, hbr.trans (hb3.mono hbr.size)⟩
        case measure => simp [intOf]; omega
  · obtain rfl : c2 = 0 := (by omega);have HVS : Hid (bGo e (f + 1) (.one (x.op == 7)) i = some a) := by
     show _ = _;rw [HV.out, HPP.out, HK.out];cases fk <;> simp [bGo]
    go_wp2_with fail
    go_ret
    exact ⟨ret_int (by rw [HVS.out]; rfl), hwr⟩
end Go.Proofs.YtpheiojmcafolaaGreatDoor
namespace Go.Proofs.YtpheiojmcafolaaGreatDoor
open Go.RowKit
theorem beh_all (e : List Nd) : ∀ f i, BehOk e f i := by
 intro f;induction f using Nat.strongRecOn with
 | _ f ih =>
  intro i;by_cases hi : e.length ≤ i
  · exact beh_out e f i hi
  · have hil : i < e.length := (by omega);cases f with
    | zero => intro w A c fld hf; omega
    | succ f =>
     have hx : e[i]? = some e[i] := List.getElem?_eq_getElem hil;cases hsh : shapedT e[i] with
     | false => exact beh_bad e f i _ hx hsh
     | true =>
      intro w A c fld hf hc hcm him hok hsl;by_cases h7 : (e[i].op == 7) = fld
      · exact beh_yes e f i _ hx hsh (fun f' hf i' => ih f' (by omega) i') w A c fld h7 hf hc hcm him hok hsl
      · exact beh_no e f i _ hx hsh w A c fld h7 hf hc hcm him hok hsl
set_option maxHeartbeats 800000 in
theorem tree_Check (e : List Nd) (A : Option Addr) (c : Nat) (w : World) (hc : e.length ≤ c) (hcm : c ≤ 9223372036854775807) (hok : NdOk e) (hsl : NdSl w w.heap.size A e) :
 Calls Tryz.prog 49 #[.slice A e.length c] w fun r w' => r = .returned (errV (treeErr e)) ∧ Below w.heap.size w w' := by
 by_cases h : 200 < e.length
 · have HV : Hid (treeErr e = 4) := by show _ = _; simp [treeErr, h]
   clear hok hsl;go_enter Tryz.func49, Tryz.ntmps49
   go_wp2_with fail
   go_ret
   exact ⟨ret_val (by rw [HV.out]; rfl), Below.refl _ _⟩
 · have hb := beh_all e (2 * e.length) 0 w A c false (by omega) hc hcm (by omega) hok hsl;cases hv : bGo e (2 * e.length) (.one false) 0 with
   | none =>
    have HV : Hid (treeErr e = 1) := (by show _ = _; simp [treeErr, h, hv]);rw [hv] at hb;have HB : Hid (Calls Tryz.prog 84 #[.slice A e.length c, .int .i64 0, .bool false] w fun r w' => r = .returned (.int .i64 (-1)) ∧ Below w.heap.size w w') := hb;clear hv hb hok hsl;have hne : ((-1 : Int) != (e.length : Int)) = true := (by rw [bne_iff_ne]; omega);go_enter Tryz.func49, Tryz.ntmps49
    go_wp2_with (go_at_call 84; refine HB.out.mono ?_; rintro r w1 ⟨rfl, hb1⟩)
    go_ret
    exact ⟨ret_val (by rw [HV.out]; rfl), hb1⟩
   | some j =>
    have HV : Hid (treeErr e = if j = e.length then 0 else 1) := (by show _ = _; simp [treeErr, h, hv]);rw [hv] at hb;have HB : Hid (Calls Tryz.prog 84 #[.slice A e.length c, .int .i64 0, .bool false] w fun r w' => r = .returned (.int .i64 (j : Int)) ∧ Below w.heap.size w w') := hb;clear hv hb hok hsl;by_cases hj : j = e.length
    · have hne : ((j : Int) != (e.length : Int)) = false := (by rw [hj]; simp);have HJ := Lib.hid hj;clear hj;go_enter Tryz.func49, Tryz.ntmps49
      go_wp2_with (go_at_call 84; refine HB.out.mono ?_; rintro r w1 ⟨rfl, hb1⟩)
      go_ret
      exact ⟨ret_val (by rw [HV.out, if_pos HJ.out]; rfl), hb1⟩
    · have hne : ((j : Int) != (e.length : Int)) = true := (by rw [bne_iff_ne]; omega);go_enter Tryz.func49, Tryz.ntmps49
      go_wp2_with (go_at_call 84; refine HB.out.mono ?_; rintro r w1 ⟨rfl, hb1⟩)
      go_ret
      exact ⟨ret_val (by rw [HV.out, if_neg hj]; rfl), hb1⟩
def NdsBack (w : World) (r : Ending) (w' : World) (xs : List Nd) (k : Int) : Prop :=
 ∃ A c, r = .returned (.tuple #[.slice A xs.length c, errV k]) ∧ xs.length ≤ c ∧ c ≤ 9223372036854775807 ∧ NdSl w' w'.heap.size A xs ∧ Below w.heap.size w w'
theorem NdsBack.none {w w' : World} {k : Int} (h : Below w.heap.size w w') : NdsBack w (.returned (.tuple #[.slice none 0 0, errV k])) w' [] k :=
 ⟨Option.none, 0, rfl, Nat.le_refl _, by omega, NdSl.nil _ _ _, h⟩
end Go.Proofs.YtpheiojmcafolaaGreatDoor
namespace Go.Proofs.YtpheiojmcafolaaGreatDoor
set_option maxRecDepth 100000
open Go.ChangeShapes Go.WideShapes Go.RowKit Go.Deep
def udData {H : Type} (u : Ud) : DataW H := .agg [strD u.ty, strD u.id]
theorem cells_nodes : Tryz.prog.cellsOf 22 = 1 := by kernel_rfl
theorem cells_uid : Tryz.prog.cellsOf 34 = 2 := by kernel_rfl
theorem nd_ok : EncOk Nd.cells 4 := ⟨fun _ => rfl, by omega, fun x u hu => by
 simp only [Nd.cells, List.mem_cons, List.not_mem_nil, or_false] at hu;rcases hu with rfl | rfl | rfl | rfl <;> rfl⟩
theorem SlG.nds {w : World} {B : Nat} {A : Option Addr} {xs : List Nd} (h : SlG Nd.cells 4 w B A xs) : NdSl w B A xs := fun hne => by
 obtain ⟨b, o, e, hb, hc⟩ := h hne;exact ⟨b, o, e, hb, fun i x hx => ⟨hc i x hx 0 _ rfl, hc i x hx 1 _ rfl, hc i x hx 2 _ rfl, hc i x hx 3 _ rfl⟩⟩
section
variable {H : Type} {enc : TypeId × Value → H} {W : World}
theorem open_relN {α : Type} {en : α → List Value} {k : Nat} {R : α → DataW H → Prop} {t e : TypeId} (ht : Tryz.prog.underlying t = some (.slice e)) (ce : Tryz.prog.cellsOf e = k) (he : EncOk en k)
 (hel : ∀ n cs y, DataW.trod enc Tryz.prog W 0 (fun _ => true) true n e cs = some y → ∃ x, cs = en x ∧ R x y.1) {fuel : Nat} {cs : List Value} {y : DataW H × List MemPlace}
 (hf : DataW.trod enc Tryz.prog W 0 (fun _ => true) true fuel t cs = some y) :
 ∃ (A : Option Addr) (xs : List α) (c : Nat), cs = [.slice A xs.length c] ∧ xs.length ≤ c ∧ c ≤ 9223372036854775807 ∧ SlG en k W W.heap.size A xs ∧ (xs = [] ∨ ∃ sp ds, y.1 = .slice ds sp ∧ ds.length = xs.length ∧ ∀ x ∈ xs, ∃ d ∈ ds, R x d) := by
 rcases open_slice ht hf with ⟨hcs, _⟩ | ⟨a, len', cap', m, n, D, Pl, hcs, _, hl, hm, hmm, hx, hi⟩
 · exact ⟨none, [], 0, hcs, by simp, by omega, SlG.nil _ _ _, .inl rfl⟩
 · simp only [if_true] at hmm;subst hmm;have hel' : ∀ i, i < m → ∃ x : α, R x (D i) ∧ ∀ j u, (en x)[j]? = some u → W.cell? (a.add (i * k + j)) = some u := by
    intro i him;obtain ⟨cs', hc, ht'⟩ := hi i him;rw [ce] at hc;obtain ⟨x, rfl, hd⟩ := hel _ _ _ ht';refine ⟨x, hd, fun j u hu => ?_⟩;obtain ⟨_, _, hat⟩ := World.cells?_some hc;have hj : j < k := (by have := (List.getElem?_eq_some_iff.1 hu).1; rwa [he.len] at this);have := hat j hj;rw [add_add] at this;rw [this, hu]
   have hxs : ∀ r, r ≤ m → ∃ xs : List α, xs.length = r ∧ (∀ x ∈ xs, ∃ d ∈ (List.range r).map D, R x d) ∧ ∀ i x, xs[i]? = some x → ∀ j u, (en x)[j]? = some u → W.cell? (a.add (i * k + j)) = some u := by
    intro r;induction r with
    | zero => intro _; exact ⟨[], rfl, by simp, fun i x hx => by simp at hx⟩
    | succ r ih =>
     intro hk;obtain ⟨xs, h1, h3, h4⟩ := ih (by omega);obtain ⟨x, hd, hc⟩ := hel' r (by omega);refine ⟨xs ++ [x], by simp [h1], fun z hz => ?_, fun i y hy => ?_⟩
     · rcases List.mem_append.1 hz with hz | hz
       · obtain ⟨d, hd1, hd2⟩ := h3 z hz;exact ⟨d, by rw [List.range_succ, List.map_append]; exact List.mem_append_left _ hd1, hd2⟩
       · rw [List.mem_singleton] at hz; subst hz; exact ⟨D r, by rw [List.range_succ, List.map_append]; simp, hd⟩
     · rcases Nat.lt_or_ge i xs.length with hlt | hge
       · rw [List.getElem?_append_left hlt] at hy; exact h4 i y hy
       · have : i = xs.length := by
          have := (List.getElem?_eq_some_iff.1 hy).1;simp at this; omega
         subst this;simp at hy;subst hy;rw [h1]; exact hc
   obtain ⟨xs, h1, h3, h4⟩ := hxs len' hl;subst h1;refine ⟨some a, xs, m, hcs, hl, by unfold maxLen at hm; omega, fun hne => ?_, .inr ⟨_, _, by rw [hx], by simp, h3⟩⟩;have h0 : 0 < xs.length := List.length_pos_iff.2 hne;have hen : 0 < (en xs[0]).length := by rw [he.len]; exact he.pos
   have hc0 := h4 0 xs[0] (List.getElem?_eq_getElem h0) 0 _ (List.getElem?_eq_getElem hen);have hsp : a.spot = none := by
    cases hs : a.spot with
    | none => rfl
    | some q =>
     simp [World.cell?, Addr.add, hs] at hc0;split at hc0 <;> simp at hc0
   obtain ⟨b, o, sp⟩ := a;simp only at hsp;subst hsp;simp only [add_none] at h4 hc0;refine ⟨b, o, rfl, World.block_lt_of_cell? W _ hc0, fun i x hx j u hu => ?_⟩;rw [Nat.add_assoc];exact h4 i x hx j u hu
theorem open_rel {α : Type} {en : α → List Value} {k : Nat} {R : α → DataW H → Prop} {t e : TypeId} (ht : Tryz.prog.underlying t = some (.slice e)) (ce : Tryz.prog.cellsOf e = k) (he : EncOk en k)
 (hel : ∀ n cs y, DataW.trod enc Tryz.prog W 0 (fun _ => true) true n e cs = some y → ∃ x, cs = en x ∧ R x y.1) {fuel : Nat} {cs : List Value} {y : DataW H × List MemPlace}
 (hf : DataW.trod enc Tryz.prog W 0 (fun _ => true) true fuel t cs = some y) :
 ∃ (A : Option Addr) (xs : List α) (c : Nat), cs = [.slice A xs.length c] ∧ xs.length ≤ c ∧ c ≤ 9223372036854775807 ∧ SlG en k W W.heap.size A xs ∧ (xs = [] ∨ ∃ sp ds, y.1 = .slice ds sp ∧ ∀ x ∈ xs, ∃ d ∈ ds, R x d) := by
 obtain ⟨A, xs, c, h1, h2, h3, h4, h5⟩ := open_relN (R := R) ht ce he hel hf;exact ⟨A, xs, c, h1, h2, h3, h4, h5.imp id fun ⟨sp, ds, h6, _, h7⟩ => ⟨sp, ds, h6, h7⟩⟩
theorem uid_trod {base : Nat} {spare : Nat → Bool} {held : Bool} {n : Nat} {cs : List Value} {y : DataW H × List MemPlace} (h : DataW.trod enc Tryz.prog W base spare held n 34 cs = some y) :
 ∃ u : Ud, cs = [.string u.ty, .string u.id] ∧ y.1 = udData u := by
 obtain ⟨xs, m, _, hy, hlen, hxl, hf⟩ := DataW.trod_struct Tryz.underlying34 h;rw [cells_uid] at hlen;match cs, hlen with
 | [c0, c1], _ =>
  match xs, hxl with
  | [y0, y1], _ =>
   have e0 : DataW.trod enc Tryz.prog W base spare held m 9 (([c0, c1].drop 0).take (Tryz.prog.cellsOf 9)) = some y0 := hf 0 _ rfl;have e1 : DataW.trod enc Tryz.prog W base spare held m 9 (([c0, c1].drop 1).take (Tryz.prog.cellsOf 9)) = some y1 := hf 1 _ rfl;simp only [cells_str, List.drop_zero, List.drop_succ_cons, List.take_succ_cons, List.take_zero] at e0 e1;obtain ⟨a0, q0, r0, _⟩ := DataW.trod_string Tryz.underlying9 e0;obtain ⟨a1, q1, r1, _⟩ := DataW.trod_string Tryz.underlying9 e1;simp only [List.cons.injEq, and_true] at q0 q1;subst q0 q1 r0 r1;exact ⟨⟨a0, a1⟩, rfl, by rw [hy]; rfl⟩
theorem ud_weights {u : Ud} (h : ∀ n, n ∈ (udData u : DataW H).weights Tryz.prog 34 → n ≤ reachBytes) : UdOk u :=
 ⟨size_of_weight (h _ (by simp [udData, strD, DataW.weights, Tryz.underlying34, DataW.weightsEach])), size_of_weight (h _ (by simp [udData, strD, DataW.weights, Tryz.underlying34, DataW.weightsEach]))⟩
theorem nd_weights {e : List Nd} {sp : List (DataW H)} (h : ∀ n, n ∈ (DataW.slice (e.map ndData) sp : DataW H).weights Tryz.prog 22 → n ≤ reachBytes) : NdOk e := fun x hx => by
 have hw : ∀ n, n ∈ (ndData x : DataW H).weights Tryz.prog 37 → n ≤ reachBytes := fun n hn => h n (slice_weights Tryz.underlying22 (List.mem_map_of_mem hx) hn);exact ⟨size_of_weight (hw _ (by simp [ndData, DataW.weights, Tryz.underlying37, DataW.weightsEach])), size_of_weight (hw _ (by simp [ndData, DataW.weights, Tryz.underlying37, DataW.weightsEach]))⟩
end
end Go.Proofs.YtpheiojmcafolaaGreatDoor
namespace Go.Proofs.YtpheiojmcafolaaGreatDoor
open Go.RowKit
structure En where
 u : Ud
 up : List Ud
 at_ : List Nd
structure Rq where
 who : Ud
 act : Ud
 what : Ud
 ctx : List Nd
instance udDec : DecidableEq Ud := fun a b => decidable_of_iff (a.ty = b.ty ∧ a.id = b.id) (by cases a; cases b; simp)
instance ndDec : DecidableEq Nd := fun a b => decidable_of_iff (a.op = b.op ∧ a.n = b.n ∧ a.s = b.s ∧ a.t = b.t) (by cases a; cases b; simp)
def fnz (f : Nat → Int) : Nat → Int
 | 0 => 0
 | n + 1 => if fnz f n ≠ 0 then fnz f n else f n
theorem fnz_zero {f : Nat → Int} : ∀ {n : Nat}, (∀ i, i < n → f i = 0) → fnz f n = 0
 | 0, _ => rfl
 | n + 1, h => by rw [fnz, fnz_zero fun i hi => h i (by omega), if_neg (by simp)]; exact h n (by omega)
theorem fnz_at {f : Nat → Int} {k : Nat} (h0 : ∀ i, i < k → f i = 0) (hk : f k ≠ 0) : ∀ {n : Nat}, k < n → fnz f n = f k
 | n + 1, hn => by
  rw [fnz];rcases Nat.lt_or_ge k n with h | h
  · rw [fnz_at h0 hk h, if_pos hk]
  · have : k = n := (by omega);subst this;rw [fnz_zero h0, if_neg (by simp)]
theorem fnz_all {f : Nat → Int} : ∀ {n : Nat}, fnz f n = 0 → ∀ i, i < n → f i = 0
 | n + 1, h, i, hi => by
  rw [fnz] at h;by_cases h1 : fnz f n = 0
  · rw [if_neg (by simp [h1])] at h;rcases Nat.lt_or_ge i n with h2 | h2
    · exact fnz_all h1 i h2
    · have : i = n := (by omega);rw [this]; exact h
  · rw [if_pos h1] at h; exact absurd h h1
def opH (v : List Nd) : Int := match v with | [] => 0 | x :: _ => x.op
def nH (v : List Nd) : Int := match v with | [] => 0 | x :: _ => x.n
def upAt (ups : List Ud) (i : Nat) : Int := match ups[i]? with
 | none => 0
 | some p => if udErr p ≠ 0 then udErr p else if p ∈ ups.take i then 6 else 0
def upsErr (ups : List Ud) : Int := fnz (upAt ups) ups.length
def entOne (e : En) : Int := if 6 < e.up.length then 4 else if upsErr e.up ≠ 0 then upsErr e.up else if valErr e.at_ ≠ 0 then valErr e.at_ else if opH e.at_ = 6 then 0 else 2
def entAt (es : List En) (i : Nat) : Int := match es[i]? with
 | none => 0
 | some e => if udErr e.u ≠ 0 then udErr e.u else if e.u ∈ (es.take i).map En.u then 6 else entOne e
def upOf (es : List En) (u : Ud) : List Ud := match es.find? (fun e => decide (e.u = u)) with
 | none => []
 | some e => e.up
def abv (es : List En) : Nat → Ud → List Ud → List Ud
 | 0, _, met => met
 | k + 1, u, met => (upOf es u).foldl (fun m p => if p ∈ m then m else abv es k p (m ++ [p])) met
def cycB (es : List En) : Bool := es.any fun e => decide (e.u ∈ abv es 100 e.u [])
def entErr (es : List En) : Int := if 16 < es.length then 4 else if fnz (entAt es) es.length ≠ 0 then fnz (entAt es) es.length else if cycB es = true then 7 else 0
def inB (es : List En) (a b : Ud) : Bool := decide (b ∈ abv es 100 a [a])
def rqErr (q : Rq) : Int := if udErr q.who ≠ 0 then udErr q.who else if udErr q.act ≠ 0 then udErr q.act else if udErr q.what ≠ 0 then udErr q.what else if valErr q.ctx ≠ 0 then valErr q.ctx else if opH q.ctx = 6 then 0 else 2
inductive Rs (α : Type) where
 | ok (v : α)
 | bad (k : Int)
def Rs.bind {α β : Type} (r : Rs α) (f : α → Rs β) : Rs β := match r with
 | .ok v => f v
 | .bad k => .bad k
def bN (b : Bool) : Nd := ⟨1, if b = true then 1 else 0, ⟨#[]⟩, ⟨#[]⟩⟩
def nN (n : Int) : Nd := ⟨2, n, ⟨#[]⟩, ⟨#[]⟩⟩
def eN (u : Ud) : Nd := ⟨4, 0, u.ty, u.id⟩
def udH (v : List Nd) : Ud := match v with | [] => ⟨⟨#[]⟩, ⟨#[]⟩⟩ | x :: _ => ⟨x.s, x.t⟩
def sH (v : List Nd) : ByteArray := match v with | [] => ⟨#[]⟩ | x :: _ => x.s
def mustV (r : Rs (List Nd)) (op : Int) : Rs (List Nd) := r.bind fun v => if opH v = op then .ok v else .bad 2
def inR (n : Int) : Bool := decide (-9223372036854775808 ≤ n) && decide (n ≤ 9223372036854775807)
def numR (op a b : Int) : Rs Int :=
 if op = 17 then (if inR (a + b) = true then .ok (a + b) else .bad 5)
 else if op = 18 then (if inR (a - b) = true then .ok (a - b) else .bad 5)
 else if op = 19 then (if inR (a * b) = true then .ok (a * b) else .bad 5)
 else .bad 1
def sgnsL : List UInt8 → List (Option UInt8)
 | [] => []
 | 42 :: r => none :: sgnsL r
 | 92 :: 42 :: r => some 42 :: sgnsL r
 | c :: r => some c :: sgnsL r
def likeL : List (Option UInt8) → List UInt8 → Bool
 | [], [] => true
 | [], _ :: _ => false
 | none :: p, [] => likeL p []
 | none :: p, c :: s => likeL p (c :: s) || likeL (none :: p) s
 | some _ :: _, [] => false
 | some b :: p, c :: s => b == c && likeL p s
 termination_by p s => p.length + s.length
def likeR (p s : List UInt8) : Rs Bool := if textErr p ≠ 0 then .bad (textErr p) else if textErr s ≠ 0 then .bad (textErr s) else .ok (likeL (sgnsL p) s)
def partsV (v : List Nd) : List (List Nd) := kidsGo v.tail.length v.tail
def partsR (v : List Nd) : Rs (List (List Nd)) := if valErr v ≠ 0 then .bad (valErr v) else if opH v = 5 then .ok (partsV v) else if opH v = 6 then .ok ((partsV v).map List.tail) else .bad 2
def getR (v : List Nd) (s : ByteArray) : Rs (List Nd) :=
 if valErr v ≠ 0 then .bad (valErr v) else if opH v = 6 then
  (match (partsV v).find? (fun p => decide (sH p = s)) with
   | some p => .ok p.tail
   | none => .bad 3)
 else .bad 2
def recGo : List (ByteArray × List Nd) → List (List UInt8) → Int
 | [], _ => 0
 | (s, v) :: r, met => if nameErr s.toList ≠ 0 then nameErr s.toList else if s.toList ∈ met then 6 else if valErr v ≠ 0 then valErr v else recGo r (met ++ [s.toList])
def recNodes (fs : List (ByteArray × List Nd)) : List Nd := ⟨6, fs.length, ⟨#[]⟩, ⟨#[]⟩⟩ :: (sortN (fs.map fun f => ⟨7, 0, f.1, ⟨#[]⟩⟩ :: f.2)).flatten
def recR (fs : List (ByteArray × List Nd)) : Rs (List Nd) := if recGo fs [] ≠ 0 then .bad (recGo fs []) else if 200 < (recNodes fs).length then .bad 4 else .ok (recNodes fs)
def setR (vs : List (List Nd)) : Rs (List Nd) := if (setOfP vs).2 ≠ 0 then .bad (setOfP vs).2 else .ok (setOfP vs).1
def bagHas (s v : List Nd) : Rs Bool := if valErr s ≠ 0 then .bad (valErr s) else if valErr v ≠ 0 then .bad (valErr v) else if opH s = 5 then .ok ((partsV s).any fun p => decide (p = v)) else .bad 2
def bagTwo (f : List (List Nd) → List (List Nd) → Bool) (s t : List Nd) : Rs Bool := if valErr s ≠ 0 then .bad (valErr s) else if valErr t ≠ 0 then .bad (valErr t) else if opH s = 5 ∧ opH t = 5 then .ok (f (partsV s) (partsV t)) else .bad 2
def bagAll (s t : List Nd) : Rs Bool := bagTwo (fun a b => b.all fun p => decide (p ∈ a)) s t
def bagAny (s t : List Nd) : Rs Bool := bagTwo (fun a b => b.any fun p => decide (p ∈ a)) s t
def eitherR (op : Int) (ra rb : Rs (List Nd)) : Rs (List Nd) := (mustV ra 1).bind fun a => if (nH a == 1) = (op == 12) then .ok a else mustV rb 1
def choiceR (rc ra rb : Rs (List Nd)) : Rs (List Nd) := (mustV rc 1).bind fun c => if nH c = 1 then ra else rb
def recOf (es : List En) (v : List Nd) : Rs (Option (List Nd)) :=
 if opH v = 6 then .ok (some v) else if opH v = 4 then .ok ((es.find? fun e => decide (e.u = udH v)).map En.at_) else .bad 2
def singleR (es : List En) (x : Nd) (v : List Nd) : Rs (List Nd) :=
 if x.op = 9 then (mustV (.ok v) 1).bind fun v => .ok [bN (nH v == 0)]
 else if x.op = 10 then (mustV (.ok v) 2).bind fun v => (numR 18 0 (nH v)).bind fun n => .ok [nN n]
 else if x.op = 23 then (mustV (.ok v) 3).bind fun v => (likeR x.s.toList (sH v).toList).bind fun b => .ok [bN b]
 else if x.op = 24 then (mustV (.ok v) 4).bind fun v => .ok [bN (decide (sH v = x.s))]
 else (recOf es v).bind fun r => match r with
  | none => if x.op = 21 then .ok [bN false] else .bad 8
  | some r => if x.op = 21 then (match getR r x.s with | .ok _ => .ok [bN true] | .bad _ => .ok [bN false]) else getR r x.s
def inR' (es : List En) (a b : List Nd) : Rs Bool :=
 (mustV (.ok a) 4).bind fun a => (if opH b = 5 then partsR b else .ok [b]).bind fun tops => if tops.all (fun t => opH t == 4) = true then .ok (tops.any fun t => inB es (udH a) (udH t)) else .bad 2
def doubleR (es : List En) (op : Int) (a b : List Nd) : Rs (List Nd) :=
 if op = 14 then .ok [bN (decide (a = b))]
 else if op = 20 then (inR' es a b).bind fun r => .ok [bN r]
 else if op = 25 then (bagHas a b).bind fun r => .ok [bN r]
 else if op = 26 then (bagAll a b).bind fun r => .ok [bN r]
 else if op = 27 then (bagAny a b).bind fun r => .ok [bN r]
 else (mustV (.ok a) 2).bind fun a => (mustV (.ok b) 2).bind fun b =>
  if op = 15 then .ok [bN (decide (nH a < nH b))] else if op = 16 then .ok [bN (decide (nH a ≤ nH b))] else (numR op (nH a) (nH b)).bind fun n => .ok [nN n]
def namedR (q : Rq) (s : List UInt8) : Rs (List Nd) :=
 if s = [112, 114, 105, 110, 99, 105, 112, 97, 108] then .ok [eN q.who] else if s = [97, 99, 116, 105, 111, 110] then .ok [eN q.act]
 else if s = [114, 101, 115, 111, 117, 114, 99, 101] then .ok [eN q.what] else if s = [99, 111, 110, 116, 101, 120, 116] then .ok q.ctx else .bad 3
def allR {α : Type} : List (Rs α) → Rs (List α)
 | [] => .ok []
 | r :: rs => r.bind fun v => (allR rs).bind fun vs => .ok (v :: vs)
def evE (es : List En) (q : Rq) : Nat → List Nd → Rs (List Nd)
 | 0, _ => .bad 0
 | _ + 1, [] => .bad 0
 | k + 1, x :: body =>
  if x.op = 1 ∨ x.op = 2 ∨ x.op = 3 ∨ x.op = 4 then .ok [x]
  else if x.op = 8 then namedR q x.s.toList
  else match x.op == 5, x.op == 6, kidsGo body.length body with
   | true, _, ps => (allR (ps.map (evE es q k))).bind setR
   | _, true, ps => (allR (ps.map fun p => evE es q k p.tail)).bind fun vs => recR ((ps.map sH).zip vs)
   | _, _, [a] => (evE es q k a).bind fun v => singleR es x v
   | _, _, [a, b] => if x.op = 11 ∨ x.op = 12 then eitherR x.op (evE es q k a) (evE es q k b) else (evE es q k a).bind fun u => (evE es q k b).bind fun v => doubleR es x.op u v
   | _, _, [c, a, b] => choiceR (evE es q k c) (evE es q k a) (evE es q k b)
   | _, _, _ => .bad 0
def valueR (es : List En) (q : Rq) (e : List Nd) : Rs (List Nd) :=
 if entErr es ≠ 0 then .bad (entErr es) else if rqErr q ≠ 0 then .bad (rqErr q) else if treeErr e ≠ 0 then .bad (treeErr e) else evE es q e.length e
end Go.Proofs.YtpheiojmcafolaaGreatDoor
