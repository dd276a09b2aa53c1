/-
  errors.As at the target *api.Errno: the model's entries for internal/reflectlite at this program's types (turned from the worked ToyasAs). errors.As at the target *api.Errno: Set, and the walk (turned from the worked ToyasAs).
  THE WALKS: plain.Told, same.Error.
  THE WALKS: same.Error and same.Told, for any two numbers.
  THE WALK of the law PhrasePrints.
-/
import Derived.Test.YtbggbcnfkcadjaaGreatDoorPf01
import Derived.LaidEql
import Derived.Stop.Asserts
import Derived.RowKitTokens
import Derived.Test.YtbggbcnfkcadjaaGreatDoorPf17
import Derived.Test.YtbggbcnfkcadjaaGreatDoorPf26
namespace Go.Proofs.YtbggbcnfkcadjaaGreatDoor
open Go.RowKit Go.Extern.Stop Go.Stop Go.Extern
theorem Tryz.valueOfP (t : Addr) (w : World) : (ReflectliteValue.unpack (.iface 93 (.pointer (some t)))).run Tryz.prog w
   = .ok (.agg #[.pointer (some ⟨9, 93, none⟩), .pointer (some ⟨w.heap.size, 0, none⟩), .int .u64 150]) (w.alloc (.cells #[.pointer (some t)] 93)) := by kernel_rfl
theorem Tryz.typeP (a : Addr) (w : World) : (ReflectliteValue.methodAny (ReflectliteValue.valueError "reflectlite.Value.Type" 0) (fun t _ _ _ => ReflectliteType.toType t) #[.agg #[.pointer (some ⟨9, 93, none⟩), .pointer (some a), .int .u64 150]]).run Tryz.prog w
   = .ok (.iface 153 (.agg #[.pointer (some ⟨9, 93, none⟩)])) w := by kernel_rfl
theorem Tryz.kindP (w : World) : ((ReflectliteType.abiMethod fun t => (fun a : Nat => Value.int IntKind.u8 (a : Int)) <$> Rtype.kind t) #[.pointer (some ⟨9, 93, none⟩)]).run Tryz.prog w = .ok (.int .u8 22) w := by kernel_rfl
theorem Tryz.kindE (w : World) : ((ReflectliteType.abiMethod fun t => (fun a : Nat => Value.int IntKind.u8 (a : Int)) <$> Rtype.kind t) #[.pointer (some ⟨9, 33, none⟩)]).run Tryz.prog w = .ok (.int .u8 2) w := by kernel_rfl
theorem rlm (z : Sem Value) (f : TypeId → Addr → Nat → Nat → Sem Value) (v : Value) :
   ReflectliteValue.method z f #[v] = (do match ← ReflectliteValue.parts v with | none => z | some (t, a, fl) => f t a fl (fl % 32)) := rfl
theorem Tryz.partsP (a : Addr) (w : World) : (ReflectliteValue.parts (.agg #[.pointer (some ⟨9, 93, none⟩), .pointer (some a), .int .u64 150])).run Tryz.prog w = .ok (some (93, a, 150)) w := by kernel_rfl
theorem Tryz.isNilP (a p : Addr) (W : World) (ha : W.cell? a = some (.pointer (some p))) :
   (ReflectliteValue.method (ReflectliteValue.valueError "reflectlite.Value.IsNil" 0) ReflectliteValue.isNil #[.agg #[.pointer (some ⟨9, 93, none⟩), .pointer (some a), .int .u64 150]]).run Tryz.prog W = .ok (.bool false) W := by
 rw [rlm]
 simp only [Sem.run_bind, Tryz.partsP, Result.andThen]
 simp [ReflectliteValue.isNil, loadVar, isAgg, underlying, Tryz.underlying93, ha, Result.andThen]
theorem Tryz.elemP (w : World) : (ReflectliteType.method ReflectliteType.elem #[.agg #[.pointer (some ⟨9, 93, none⟩)]]).run Tryz.prog w = .ok (.iface 153 (.agg #[.pointer (some ⟨9, 33, none⟩)])) w := by kernel_rfl
theorem Tryz.implementsE (w : World) : (ReflectliteType.relation "Implements" ReflectliteType.implements_ #[.agg #[.pointer (some ⟨9, 33, none⟩)], .iface 153 (.agg #[.pointer (some ⟨9, 25, none⟩)])]).run Tryz.prog w = .ok (.bool true) w := by kernel_rfl
theorem Tryz.typeOfE (v : Value) (w : World) : (ReflectliteType.typeOf #[.iface 33 v]).run Tryz.prog w = .ok (.iface 153 (.agg #[.pointer (some ⟨9, 33, none⟩)])) w := by kernel_rfl
theorem Tryz.assignableE (w : World) : (ReflectliteType.relation "AssignableTo" ReflectliteType.assignableTo #[.agg #[.pointer (some ⟨9, 33, none⟩)], .iface 153 (.agg #[.pointer (some ⟨9, 33, none⟩)])]).run Tryz.prog w = .ok (.bool true) w := by kernel_rfl
theorem Tryz.valueOfE (k : Int) (w : World) : (ReflectliteValue.unpack (.iface 33 (.int .i64 k))).run Tryz.prog w
   = .ok (.agg #[.pointer (some ⟨9, 33, none⟩), .pointer (some ⟨w.heap.size, 0, none⟩), .int .u64 130]) (w.alloc (.cells #[.int .i64 k] 33)) := by kernel_rfl
theorem Tryz.elemOfP (w : World) : (Rtype.elem? 93).run Tryz.prog w = .ok (some 33) w := by kernel_rfl
theorem Tryz.mkE (p : Addr) (w : World) : (ReflectliteValue.mk 33 p ReflectliteValue.flagAddr).run Tryz.prog w = .ok (.agg #[.pointer (some ⟨9, 33, none⟩), .pointer (some p), .int .u64 386]) w := by kernel_rfl
theorem Tryz.elemVP (a p : Addr) (W : World) (ha : W.cell? a = some (.pointer (some p))) :
   (ReflectliteValue.method (ReflectliteValue.valueError "reflectlite.Value.Elem" 0) ReflectliteValue.elem #[.agg #[.pointer (some ⟨9, 93, none⟩), .pointer (some a), .int .u64 150]]).run Tryz.prog W
     = .ok (.agg #[.pointer (some ⟨9, 33, none⟩), .pointer (some p), .int .u64 386]) W := by
 rw [rlm]
 simp only [Sem.run_bind, Tryz.partsP, Result.andThen]
 simp [ReflectliteValue.elem, loadVar, isAgg, underlying, Tryz.underlying93, ha, Result.andThen, Tryz.elemOfP, Tryz.mkE]
end Go.Proofs.YtbggbcnfkcadjaaGreatDoor
namespace Go.Proofs.YtbggbcnfkcadjaaGreatDoor
open Go.RowKit Go.Extern.Stop Go.Stop Go.Extern
theorem rls (v x : Value) : ReflectliteValue.set #[v, x] = (do
   let (some (dst, a, fl), some (src, b, _)) := (← ReflectliteValue.parts v, ← ReflectliteValue.parts x)
     | unsupported (.noEntry "extern/(internal/reflectlite.Value).Set.zeroValue")
   if fl / ReflectliteValue.flagAddr % 2 == 0 then unsupported (.noEntry "extern/(internal/reflectlite.Value).Set.unaddressable")
   let val ← loadVar src b
   if ← Rtype.directlyAssignable dst src then storeVar dst a val
   else if ← Rtype.implements dst src then
     if (← Rtype.kind src) == 20 then
       match val with
       | .nilIface => unsupported (.noEntry "extern/reflectlite: a nil value of one interface type handed on as a value of another")
       | _ => storeVar dst a val
     else storeVar dst a (.iface src val)
   else panicString ("reflectlite.Set: value of type " ++ (← Rtype.spelt src) ++ " is not assignable to type " ++ (← Rtype.spelt dst))
   pure (.tuple #[])) := rfl
theorem Tryz.partsEa (a : Addr) (w : World) : (ReflectliteValue.parts (.agg #[.pointer (some ⟨9, 33, none⟩), .pointer (some a), .int .u64 386])).run Tryz.prog w = .ok (some (33, a, 386)) w := by kernel_rfl
theorem Tryz.partsE (a : Addr) (w : World) : (ReflectliteValue.parts (.agg #[.pointer (some ⟨9, 33, none⟩), .pointer (some a), .int .u64 130])).run Tryz.prog w = .ok (some (33, a, 130)) w := by kernel_rfl
theorem Tryz.directE (w : World) : (Rtype.directlyAssignable 33 33).run Tryz.prog w = .ok true w := by kernel_rfl
theorem Tryz.setE (ta b : Addr) (k : Int) (old : Value) (W : World) (hb : W.cell? b = some (.int .i64 k)) (ht : W.cell? ta = some old) (hf : W.frozen? ta = false) :
   (ReflectliteValue.set #[.agg #[.pointer (some ⟨9, 33, none⟩), .pointer (some ta), .int .u64 386], .agg #[.pointer (some ⟨9, 33, none⟩), .pointer (some b), .int .u64 130]]).run Tryz.prog W
     = .ok (.tuple #[]) (W.setCell ta (.int .i64 k)) := by
 rw [rls]
 simp only [Sem.run_bind, Tryz.partsEa, Tryz.partsE, Result.andThen]
 simp [ReflectliteValue.flagAddr, loadVar, isAgg, underlying, Tryz.underlying33, hb, Result.andThen, Tryz.directE, storeVar, Value.cells, storeCells, Addr.add]
 rw [run_store Tryz.prog W ta _ _ (by rfl)]
 simp [ht, hf]
theorem Tryz.methodKind (h : Value) (w : World) : (Go.method 447 153 (.agg #[h]) "Kind").run Tryz.prog w = .ok (266, h) w := by kernel_rfl
theorem Tryz.methodElem (h : Value) (w : World) : (Go.method 447 153 (.agg #[h]) "Elem").run Tryz.prog w = .ok (277, .agg #[h]) w := by kernel_rfl
theorem Tryz.methodImplements (h : Value) (w : World) : (Go.method 447 153 (.agg #[h]) "Implements").run Tryz.prog w = .ok (278, .agg #[h]) w := by kernel_rfl
theorem Tryz.methodAssignableTo (h : Value) (w : World) : (Go.method 447 153 (.agg #[h]) "AssignableTo").run Tryz.prog w = .ok (275, .agg #[h]) w := by kernel_rfl
set_option maxRecDepth 100000 in
set_option maxHeartbeats 4000000 in
theorem as_hit (k : Int) (t : Addr) (old : Value) (w : World) (hg : w.cell? ⟨0, 0, none⟩ = some (.iface 153 (.agg #[.pointer (some ⟨9, 25, none⟩)]))) (ht0 : w.cell? t = some old) (hf0 : w.frozen? t = false) :
   Calls Tryz.prog 55 #[.iface 33 (.int .i64 k), .iface 93 (.pointer (some t))] w fun ev w' => ev = .returned (.bool true) ∧ w' = ((((w.alloc (.cells #[.pointer (some t)] 93)).alloc (.cells #[.pointer (some ⟨9, 93, none⟩), .pointer (some ⟨w.heap.size, 0, none⟩), .int .u64 150] 121)).alloc (.cells #[.pointer (some ⟨9, 93, none⟩), .pointer (some ⟨w.heap.size, 0, none⟩), .int .u64 150] 121)).alloc (.cells #[.int .i64 k] 33)).setCell t (.int .i64 k) := by
 have h6 := @run_callFunc_extern Tryz.prog 88 _ (fun args => ReflectliteValue.unpack (args.getD 0 (.tuple #[]))) Tryz.func88 (by kernel_rfl) (by kernel_rfl) (by kernel_rfl) (by kernel_rfl)
 have h7 := @run_callFunc_extern Tryz.prog 89 _ (ReflectliteValue.methodAny (ReflectliteValue.valueError "reflectlite.Value.Type" 0) (fun t _ _ _ => ReflectliteType.toType t)) Tryz.func89 (by kernel_rfl) (by kernel_rfl) (by kernel_rfl) (by kernel_rfl)
 have h8 := @run_callFunc_extern Tryz.prog 90 _ (ReflectliteValue.method (ReflectliteValue.valueError "reflectlite.Value.IsNil" 0) ReflectliteValue.isNil) Tryz.func90 (by kernel_rfl) (by kernel_rfl) (by kernel_rfl) (by kernel_rfl)
 have h27 := @run_callFunc_extern Tryz.prog 266 _ (ReflectliteType.abiMethod fun t => do pure (.int .u8 (← Rtype.kind t))) Tryz.func266 (by kernel_rfl) (by kernel_rfl) (by kernel_rfl) (by kernel_rfl)
 have h37 := @run_callFunc_extern Tryz.prog 277 _ (ReflectliteType.method ReflectliteType.elem) Tryz.func277 (by kernel_rfl) (by kernel_rfl) (by kernel_rfl) (by kernel_rfl)
 have h38 := @run_callFunc_extern Tryz.prog 278 _ (ReflectliteType.relation "Implements" ReflectliteType.implements_) Tryz.func278 (by kernel_rfl) (by kernel_rfl) (by kernel_rfl) (by kernel_rfl)
 have h10 := @run_callFunc_extern Tryz.prog 122 _ ReflectliteType.typeOf Tryz.func122 (by kernel_rfl) (by kernel_rfl) (by kernel_rfl) (by kernel_rfl)
 have h35 := @run_callFunc_extern Tryz.prog 275 _ (ReflectliteType.relation "AssignableTo" ReflectliteType.assignableTo) Tryz.func275 (by kernel_rfl) (by kernel_rfl) (by kernel_rfl) (by kernel_rfl)
 have h11 := @run_callFunc_extern Tryz.prog 123 _ (ReflectliteValue.method (ReflectliteValue.valueError "reflectlite.Value.Elem" 0) ReflectliteValue.elem) Tryz.func123 (by kernel_rfl) (by kernel_rfl) (by kernel_rfl) (by kernel_rfl)
 have h12 := @run_callFunc_extern Tryz.prog 124 _ ReflectliteValue.set Tryz.func124 (by kernel_rfl) (by kernel_rfl) (by kernel_rfl) (by kernel_rfl)
 have f6 := Tryz.valueOfP
 have f7 := Tryz.typeP
 have mK := Tryz.methodKind
 have mE := Tryz.methodElem
 have mI := Tryz.methodImplements
 have mA := Tryz.methodAssignableTo
 have k27 := Tryz.kindP
 have k25 := Tryz.kindE
 have e27 := Tryz.elemP
 have i25 := Tryz.implementsE
 have tO := Tryz.typeOfE
 have a25 := Tryz.assignableE
 have v25 := Tryz.valueOfE
 have n8 := Tryz.isNilP ⟨w.heap.size, 0, none⟩ t ((w.alloc (.cells #[.pointer (some t)] 93)).alloc (.cells #[.pointer (some ⟨9, 93, none⟩), .pointer (some ⟨w.heap.size, 0, none⟩), .int .u64 150] 121)) (by simp)
 have hlt : 0 < w.heap.size := by
   rcases Nat.lt_or_ge 0 w.heap.size with h | h
   · exact h
   · simp [World.cell?, Array.getElem?_eq_none h] at hg
 have hg2 : ((w.alloc (.cells #[.pointer (some t)] 93)).alloc (.cells #[.pointer (some ⟨9, 93, none⟩), .pointer (some ⟨w.heap.size, 0, none⟩), .int .u64 150] 121)).cell? ⟨0, 0, none⟩ = some (.iface 153 (.agg #[.pointer (some ⟨9, 25, none⟩)])) := by
   rw [World.cell?_alloc_lt _ _ ⟨0, 0, none⟩ (by first | (simp; done) | (simp; omega)), World.cell?_alloc_lt _ _ ⟨0, 0, none⟩ hlt]; exact hg
 have htl : t.block < w.heap.size := by
   rcases Nat.lt_or_ge t.block w.heap.size with h | h
   · exact h
   · simp [World.cell?, Array.getElem?_eq_none h] at ht0
 have el := Tryz.elemVP ⟨w.heap.size, 0, none⟩ t (((w.alloc (.cells #[.pointer (some t)] 93)).alloc (.cells #[.pointer (some ⟨9, 93, none⟩), .pointer (some ⟨w.heap.size, 0, none⟩), .int .u64 150] 121)).alloc (.cells #[.pointer (some ⟨9, 93, none⟩), .pointer (some ⟨w.heap.size, 0, none⟩), .int .u64 150] 121)) (by rw [World.cell?_alloc_lt _ _ ⟨w.heap.size, 0, none⟩ (by simp; omega)]; simp)
 have st := Tryz.setE t ⟨w.heap.size + 1 + 1 + 1, 0, none⟩ k old ((((w.alloc (.cells #[.pointer (some t)] 93)).alloc (.cells #[.pointer (some ⟨9, 93, none⟩), .pointer (some ⟨w.heap.size, 0, none⟩), .int .u64 150] 121)).alloc (.cells #[.pointer (some ⟨9, 93, none⟩), .pointer (some ⟨w.heap.size, 0, none⟩), .int .u64 150] 121)).alloc (.cells #[.int .i64 k] 33))
   (by rw [World.cell?_alloc_at _ _ _ _ (by simp)] <;> rfl)
   (by rw [World.cell?_alloc_lt _ _ t (by simp; omega), World.cell?_alloc_lt _ _ t (by simp; omega), World.cell?_alloc_lt _ _ t (by simp; omega), World.cell?_alloc_lt _ _ t htl]; exact ht0)
   (by rw [World.frozen?_alloc_old _ _ t (by simp; omega), World.frozen?_alloc_old _ _ t (by simp; omega), World.frozen?_alloc_old _ _ t (by simp; omega), World.frozen?_alloc_old _ _ t (Nat.ne_of_lt htl)]; exact hf0)
 go_enter Tryz.func55, Tryz.ntmps55
 go_wp2
 refine wp_loop_rounds 1 ?_
 rw [rounds_succ]
 go_wp2
 go_ret
 exact ⟨rfl, rfl⟩
end Go.Proofs.YtbggbcnfkcadjaaGreatDoor
namespace Go.Proofs.YtbggbcnfkcadjaaGreatDoor
open Go.RowKit
def ErrCell (w : World) : Prop := w.cell? ⟨0, 0, none⟩ = some (.iface 153 (.agg #[.pointer (some ⟨9, 25, none⟩)]))
theorem ErrCell.lt {w : World} (h : ErrCell w) : 0 < w.heap.size := by
 rcases Nat.lt_or_ge 0 w.heap.size with h' | h'
 · exact h'
 · unfold ErrCell at h; simp [World.cell?, Array.getElem?_eq_none h'] at h
theorem ErrCell.below {w w' : World} {B : Nat} (h : ErrCell w) (hb : Below B w w') (hB : 0 < B) : ErrCell w' := (hb.cell (p := ⟨0, 0, none⟩) hB).trans h
end Go.Proofs.YtbggbcnfkcadjaaGreatDoor
namespace Go.Proofs.YtbggbcnfkcadjaaGreatDoor
open Go.RowKit
set_option maxRecDepth 100000 in
set_option maxHeartbeats 1600000 in
theorem plain_Told (k : Int) (w : World) (hg : ErrCell w) :
   Calls Tryz.prog 27 #[errV k] w fun e w' => e = .returned (.int .i64 k) ∧ Below w.heap.size w w' := by
 by_cases h0 : k = 0
 · subst h0
   go_enter Tryz.func27, Tryz.ntmps27
   go_wp2_with fail
   go_ret
   exact ⟨rfl, Below.refl _ _⟩
 · rw [errV_pos h0]
   have hlt := hg.lt
   have H := Lib.hid (as_hit k ⟨w.heap.size, 0, none⟩ (.int .i64 0) (w.alloc (.cells #[.int .i64 0] 33)) (by rw [World.cell?_alloc_lt _ _ ⟨0, 0, none⟩ hlt]; exact hg) (by simp) (by simp))
   clear hg
   go_enter Tryz.func27, Tryz.ntmps27
   go_wp2_with fail
   refine Calls.mono H.out ?_
   rintro r w1 ⟨rfl, hw⟩
   have hc : w1.cell? ⟨w.heap.size, 0, none⟩ = some (.int .i64 k) := by rw [hw]; simp [go_sem]
   have hb : Below w.heap.size w w1 := by
     rw [hw]
     exact Below.setCell (B := w.heap.size) (p := ⟨w.heap.size, 0, none⟩) (by (repeat (first | assumption | exact Below.refl _ _ | apply Below.drew | apply below_drewN | (refine Below.alloc ?_ (by first | exact Nat.le_refl _ | omega | (simp; done) | (simp; omega)) _)))) (Nat.le_refl _) _
   clear hw
   go_wp2_with fail
   go_ret
   exact ⟨rfl, hb⟩
end Go.Proofs.YtbggbcnfkcadjaaGreatDoor
namespace Go.Proofs.YtbggbcnfkcadjaaGreatDoor
open Go.RowKit
set_option maxRecDepth 100000 in
set_option maxHeartbeats 1600000 in
theorem same_Err (k m : Int) (w : World) (hg : ErrCell w) :
   Calls Tryz.prog 15 #[errV k, .int .i64 m] w fun e w' => e = .returned (.bool (k == m)) ∧ Below w.heap.size w w' := by
 have H := Lib.hid (plain_Told k w hg)
 clear hg
 go_enter Tryz.func15, Tryz.ntmps15
 go_wp2_with fail
 refine Calls.mono H.out ?_
 rintro r w1 ⟨rfl, hb⟩
 go_wp2_with fail
 go_ret
 exact ⟨rfl, hb⟩
end Go.Proofs.YtbggbcnfkcadjaaGreatDoor
namespace Go.Proofs.YtbggbcnfkcadjaaGreatDoor
set_option maxRecDepth 100000
open Go.RowKit Go.Sort
theorem neg_five : wordsW (negX 5) = [tSg [45], tSg [40], ⟨2, bsOf [53], 0⟩, tSg [41]] := by
 have h : wordsW (negX 5) = tSg [45] :: tSg [40] :: (numT 5 ++ [tSg [41]]) := rfl
 rw [h, five]
 rfl
theorem fact_pw : printP (negX 5) = ([tSg [45], tSg [40], ⟨2, bsOf [53], 0⟩, tSg [41]], 0) := by
 rw [printP_of (neg_tree 5) (neg_words 5), neg_five]
theorem read_pw : (readP ⟨#[45, 40, 53, 41]⟩).1.map bareTk = [tSg [45], tSg [40], ⟨2, bsOf [53], 0⟩, tSg [41]] ∧ (readP ⟨#[45, 40, 53, 41]⟩).1.length ≤ 300 := by
 have e : (⟨#[45, 40, 53, 41]⟩ : ByteArray).toList = [45, 40, 53, 41] := bsOf_list _
 have h : readP ⟨#[45, 40, 53, 41]⟩ = ([⟨5, bsOf [45], 0⟩, ⟨5, bsOf [40], 1⟩, ⟨2, bsOf [53], 2⟩, ⟨5, bsOf [41], 3⟩], 0, 0) := by
   unfold readP
   rw [e, if_neg (by decide)]
   rfl
 rw [h]
 exact ⟨rfl, by simp⟩
theorem negX_ok : NdOk (negX 5) := by
 intro x hx
 simp only [negX, List.mem_cons, List.not_mem_nil, or_false] at hx
 rcases hx with rfl | rfl <;> exact small_nd (by decide) (by decide)
theorem negX_num : NumK (negX 5) := by
 intro x hx h2
 simp only [negX, List.mem_cons, List.not_mem_nil, or_false] at hx
 rcases hx with rfl | rfl <;> simp [numX] at h2 ⊢
theorem print_len (e : List Nd) : (printP e).1.length ≤ 300 := by
 unfold printP
 split
 · simp
 · split
   · simp
   · show (wordsW e).length ≤ 300
     omega
set_option maxHeartbeats 12800000 in
theorem law_prints (e : List Nd) (A : Option Addr) (c : Nat) (w : World) (ha : NdArg w A c e) (hg : ErrCell w) (htab : TabP w) :
   Calls Tryz.prog 3 #[.slice A e.length c] w fun r w' => r = .returned (.bool true) ∧ RowKit.Below w.heap.size w w' := by
 have HQK := Lib.hid (fun W => law_quick ⟨#[45, 40, 53, 41]⟩ _ read_pw.1 read_pw.2 W (by decide))
 have HA := Lib.hid ha
 have HG := Lib.hid hg
 have HTB := Lib.hid htab
 have HN1 := Lib.hid (fun W => law_num 5 W)
 clear ha hg htab
 go_enter Tryz.func3, Tryz.ntmps3
 go_wp2_with fail
 refine (HN1.out w).mono ?_
 rintro r w3 ⟨rfl, hb3⟩
 have HB3 := Lib.hid hb3
 have hlit := nds_lit w3 (negX 5) #[.int .i64 10, .int .i64 0, .string ⟨#[]⟩, .string ⟨#[]⟩, .int .i64 2, .int .i64 5, .string ⟨#[]⟩, .string ⟨#[]⟩] rfl (by decide)
 obtain ⟨Al, cl, hvl, -, -, hsl, -⟩ := own_form_new hlit
 injection hvl with e1 e2 e3
 subst e1 e3
 have hb0 : RowKit.Below w3.heap.size w3 (w3.alloc (.cells #[.int .i64 10, .int .i64 0, .string ⟨#[]⟩, .string ⟨#[]⟩, .int .i64 2, .int .i64 5, .string ⟨#[]⟩, .string ⟨#[]⟩] 29)) := by (repeat (first | assumption | exact Below.refl _ _ | apply Below.drew | apply below_drewN | (refine Below.alloc ?_ (by first | exact Nat.le_refl _ | omega | (simp; done) | (simp; omega)) _)))
 have HB4 := Lib.hid (HB3.out.trans (hb0.mono HB3.out.size))
 have HPR := Lib.hid (phrase_Print (negX 5) _ _ _ (Nat.le_refl _) (by decide) hsl negX_ok negX_num (HTB.out.far HB4.out))
 rw [fact_pw] at HPR
 clear hb3 hlit hsl hb0 e2 HN1 HB3
 go_wp2_with fail
 refine HPR.out.mono ?_
 rintro r w5 ⟨⟨A5, c5, rfl, -, -, h5⟩, hb5⟩
 have HB5 := Lib.hid (HB4.out.trans (hb5.mono HB4.out.size))
 have H5 := Lib.hid h5
 clear hb5 h5 HPR HB4
 go_wp2_with fail
 refine (HQK.out w5).mono ?_
 rintro r w6 ⟨A6, c6, rfl, h6, hb6, -, -⟩
 have HB6 := Lib.hid (HB5.out.trans (hb6.mono HB5.out.size))
 have HST := Lib.hid (same_Tokens _ A5 A6 c5 c6 w6 ((H5.out.below hb6).more hb6.size) h6 (by decide))
 clear hb6 h6 H5 HB5 HQK
 go_wp2_with fail
 refine HST.out.mono ?_
 rintro r w7 ⟨rfl, hb7⟩
 have HB7 := Lib.hid (HB6.out.trans (hb7.mono HB6.out.size))
 clear hb7 HST HB6
 have HR := Lib.hid (r2_Printed e A c w7 (Nat.le_trans HA.out.le HA.out.max) ((HA.out.sl.below HB7.out).more HB7.out.size) HA.out.ok HA.out.num)
 have HP := Lib.hid (fun W (hW : RowKit.Below w.heap.size w W) => phrase_Print e A c W HA.out.le HA.out.max ((HA.out.sl.below hW).more hW.size) HA.out.ok HA.out.num (HTB.out.far hW))
 have hpl := print_len e
 obtain ⟨⟨us, k⟩, hq⟩ : ∃ q, printP e = q := ⟨_, rfl⟩
 rw [hq] at HR HP hpl
 clear hq
 go_wp2_with fail
 refine HR.out.mono ?_
 rintro r w8 ⟨A8, c8, rfl, h8, hb8⟩
 have h8 : TkSl w8 w8.heap.size A8 us := h8
 have hpl : us.length ≤ 300 := hpl
 have HB8 := Lib.hid (HB7.out.trans (hb8.mono HB7.out.size))
 have H8 := Lib.hid h8
 clear hb8 h8 HR HB7
 go_wp2_with fail
 refine (HP.out w8 HB8.out).mono ?_
 rintro r w9 ⟨⟨A9, c9, rfl, -, -, h9⟩, hb9⟩
 have h9 : TkSl w9 w9.heap.size A9 us := h9
 have HB9 := Lib.hid (HB8.out.trans (hb9.mono HB8.out.size))
 have H89 := Lib.hid ((H8.out.below hb9).more hb9.size)
 have H9 := Lib.hid h9
 have HE := Lib.hid (same_Err k k w9 (HG.out.below HB9.out HG.out.lt))
 clear hb9 h9 HP HB8 H8
 have tkk : (k == k) = true := by simp
 go_wp2_with fail
 refine HE.out.mono ?_
 rintro r w10 ⟨rfl, hb10⟩
 have HB10 := Lib.hid (HB9.out.trans (hb10.mono HB9.out.size))
 have HS2 := Lib.hid (same_Tokens us A9 A8 c9 c8 w10 ((H9.out.below hb10).more hb10.size) ((H89.out.below hb10).more hb10.size) (by omega))
 clear hb10 HE HB9 H9 H89
 go_wp2_with fail
 refine HS2.out.mono ?_
 rintro r w11 ⟨rfl, hb11⟩
 have HB11 := Lib.hid (HB10.out.trans (hb11.mono HB10.out.size))
 clear hb11 HS2 HB10
 go_wp2_with fail
 go_ret
 exact ⟨rfl, HB11.out⟩
end Go.Proofs.YtbggbcnfkcadjaaGreatDoor
