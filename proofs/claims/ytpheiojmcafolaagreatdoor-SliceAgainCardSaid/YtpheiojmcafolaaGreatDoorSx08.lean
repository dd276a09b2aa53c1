/-
  ARGUMENTS that are policies, one or many, opened, with numbers that stay in 64 bits.
  errors.As at the target *api.Errno: the model's entries for internal/reflectlite at this program's types (turned from the worked ToyasAs). errors.As at the target *api.Errno: Set, and the walk (turned from the worked ToyasAs).
  A REGION THAT DRAWS ITS ORDER, walked in an order of one's own: the reads that one condition S on the world gives first, then the calls that come up alone.
  THE WALKS: package eval: is, truth, must, entity, uid, told.
  THE WALKS: ent.In.
  THE WALKS: an evaluation in memory; (*eval.evaluation).record.
  PLAIN LAWS: to go on from the last star is enough.
  PLAIN LAWS: the matching of patterns, step by step.
-/
import Derived.Test.YtpheiojmcafolaaGreatDoorSx07
import Derived.Test.YtpheiojmcafolaaGreatDoorSx01
import Derived.LaidEql
import Derived.Stop.Asserts
import Derived.RowKitTokens
import Derived.Test.YtpheiojmcafolaaGreatDoorSx03
import Derived.Test.YtpheiojmcafolaaGreatDoorSx06
import Derived.Test.YtpheiojmcafolaaGreatDoorSx05
namespace Go.Proofs.YtpheiojmcafolaaGreatDoor
set_option maxRecDepth 100000
open Go.ChangeShapes Go.WideShapes Go.RowKit Go.Deep
structure PoM where
 p : Po
 cs : List CdM
 A : Option Addr
 c : Nat
def PoM.cells (x : PoM) : List Value := [.string x.p.name, .bool x.p.forbid, .int .i64 x.p.who.op, .string x.p.who.ty, .string x.p.who.uid.ty, .string x.p.who.uid.id, .int .i64 x.p.act.op, .string x.p.act.ty, .string x.p.act.uid.ty, .string x.p.act.uid.id, .int .i64 x.p.what.op, .string x.p.what.ty, .string x.p.what.uid.ty, .string x.p.what.uid.id, .slice x.A x.cs.length x.c]
theorem pom_ok : EncOk PoM.cells 15 := ⟨fun _ => rfl, by omega, fun x u hu => by
 simp only [PoM.cells, List.mem_cons, List.not_mem_nil, or_false] at hu
 rcases hu with rfl | rfl | rfl | rfl | rfl | rfl | rfl | rfl | rfl | rfl | rfl | rfl | rfl | rfl | rfl <;> rfl⟩
structure PoMOk (w : World) (B : Nat) (x : PoM) : Prop where
 same : x.p.conds = x.cs.map CdM.cd
 le : x.cs.length ≤ x.c
 max : x.c ≤ 9223372036854775807
 z : PoZ x.p
 at_ : CdsAt w B x.A x.cs
 ni : ∀ y ∈ x.cs, NdI y.e
theorem PoMOk.below {w w' : World} {B : Nat} {x : PoM} (h : PoMOk w B x) (hb : Below B w w') : PoMOk w' B x :=
 ⟨h.same, h.le, h.max, h.z, ⟨h.at_.sl.below hb, fun y hy => (h.at_.good y hy).below hb⟩, h.ni⟩
theorem PoMOk.more {w : World} {B B' : Nat} {x : PoM} (h : PoMOk w B x) (hB : B ≤ B') : PoMOk w B' x :=
 ⟨h.same, h.le, h.max, h.z, ⟨h.at_.sl.more hB, fun y hy => (h.at_.good y hy).more hB⟩, h.ni⟩
theorem PoMOk.later {w w' : World} {x : PoM} (h : PoMOk w w.heap.size x) (hb : Below w.heap.size w w') : PoMOk w' w'.heap.size x := (h.below hb).more hb.size
abbrev PoSl := SlG PoM.cells 15
structure PosIn (w : World) (A : Option Addr) (ps : List PoM) : Prop where
 sl : PoSl w w.heap.size A ps
 each : ∀ x ∈ ps, PoMOk w w.heap.size x
theorem PosIn.later {w w' : World} {A : Option Addr} {ps : List PoM} (h : PosIn w A ps) (hb : Below w.heap.size w w') : PosIn w' A ps :=
 ⟨h.sl.later hb, fun x hx => (h.each x hx).later hb⟩
theorem poSl_at {w : World} {B : Nat} {A : Option Addr} {xs : List PoM} (h : PoSl w B A xs) {i : Nat} {x : PoM} (hx : xs[i]? = some x) : ∃ b o, A = some ⟨b, o, none⟩ ∧ b < B ∧ AtG PoM.cells w b (o + i * 15) x := by
 obtain ⟨b, o, e, hb, hc⟩ := h (by intro hc; rw [hc] at hx; simp at hx)
 exact ⟨b, o, e, hb, hc i x hx⟩
section
variable {H : Type} {enc : TypeId × Value → H} {W : World}
def CdI (W : World) (x : CdM) (d : DataW H) : Prop :=
 x.e.length ≤ x.c ∧ x.c ≤ 9223372036854775807 ∧ NdSl W W.heap.size x.A x.e ∧ NdI x.e ∧ (Reach 53 d → NdOk x.e)
theorem condI_trod {n : Nat} {cs : List Value} {y : DataW H × List MemPlace} (h : DataW.trod enc Tryz.prog W 0 (fun _ => true) true n 53 cs = some y) :
   ∃ x : CdM, cs = x.cells ∧ CdI W x y.1 := by
 obtain ⟨xs, m, _, hy, hlen, hxl, hf⟩ := DataW.trod_struct Tryz.underlying53 h
 rw [cells_cond] at hlen
 match cs, hlen with
 | [c0, c1], _ =>
   match xs, hxl with
   | [y0, y1], _ =>
     have e0 : DataW.trod enc Tryz.prog W 0 (fun _ => true) true m 4 (([c0, c1].drop 0).take (Tryz.prog.cellsOf 4)) = some y0 := hf 0 _ rfl
     have e1 : DataW.trod enc Tryz.prog W 0 (fun _ => true) true m 22 (([c0, c1].drop 1).take (Tryz.prog.cellsOf 22)) = some y1 := hf 1 _ rfl
     simp only [cells_bool, cells_nodes, List.drop_zero, List.drop_succ_cons, List.take_succ_cons, List.take_zero] at e0 e1
     obtain ⟨a0, q0, r0⟩ := DataW.trod_bool Tryz.underlying4 e0
     obtain ⟨A, e, c, q1, h1, h2, h3, h4, h5⟩ := nodesI_trod e1
     simp only [List.cons.injEq, and_true] at q0 q1
     subst q0 q1
     refine ⟨⟨a0, A, c, e⟩, rfl, h1, h2, h3, h4, fun hr => h5 ?_⟩
     have hd : y.1 = .agg [y0.1, y1.1] := by rw [hy]; rfl
     rw [hd] at hr
     exact fun n hn => hr n (by simp only [DataW.weights, Tryz.underlying53]; exact DataW.weights_mem_each (j := 1) (ts := [4, 22]) rfl rfl n hn)
def PoI (W : World) (x : PoM) (d : DataW H) : Prop := Reach 47 d → PoMOk W W.heap.size x
theorem policyI_trod {n : Nat} {cs : List Value} {y : DataW H × List MemPlace} (h : DataW.trod enc Tryz.prog W 0 (fun _ => true) true n 47 cs = some y) :
   ∃ x : PoM, cs = x.cells ∧ PoI W x y.1 := by
 obtain ⟨xs, m, _, hy, hlen, hxl, hf⟩ := DataW.trod_struct Tryz.underlying47 h
 rw [cells_policy] at hlen
 match cs, hlen with
 | [c0, c1, c2, c3, c4, c5, c6, c7, c8, c9, c10, c11, c12, c13, c14], _ =>
   match xs, hxl with
   | [y0, y1, y2, y3, y4, y5], _ =>
     have e0 : DataW.trod enc Tryz.prog W 0 (fun _ => true) true m 9 (([c0, c1, c2, c3, c4, c5, c6, c7, c8, c9, c10, c11, c12, c13, c14].drop 0).take (Tryz.prog.cellsOf 9)) = some y0 := hf 0 _ rfl
     have e1 : DataW.trod enc Tryz.prog W 0 (fun _ => true) true m 4 (([c0, c1, c2, c3, c4, c5, c6, c7, c8, c9, c10, c11, c12, c13, c14].drop 1).take (Tryz.prog.cellsOf 4)) = some y1 := hf 1 _ rfl
     have e2 : DataW.trod enc Tryz.prog W 0 (fun _ => true) true m 44 (([c0, c1, c2, c3, c4, c5, c6, c7, c8, c9, c10, c11, c12, c13, c14].drop 2).take (Tryz.prog.cellsOf 44)) = some y2 := hf 2 _ rfl
     have e3 : DataW.trod enc Tryz.prog W 0 (fun _ => true) true m 44 (([c0, c1, c2, c3, c4, c5, c6, c7, c8, c9, c10, c11, c12, c13, c14].drop 6).take (Tryz.prog.cellsOf 44)) = some y3 := hf 3 _ rfl
     have e4 : DataW.trod enc Tryz.prog W 0 (fun _ => true) true m 44 (([c0, c1, c2, c3, c4, c5, c6, c7, c8, c9, c10, c11, c12, c13, c14].drop 10).take (Tryz.prog.cellsOf 44)) = some y4 := hf 4 _ rfl
     have e5 : DataW.trod enc Tryz.prog W 0 (fun _ => true) true m 45 (([c0, c1, c2, c3, c4, c5, c6, c7, c8, c9, c10, c11, c12, c13, c14].drop 14).take (Tryz.prog.cellsOf 45)) = some y5 := hf 5 _ rfl
     simp only [cells_str, cells_bool, cells_scope, cells_conds, List.drop_zero, List.drop_succ_cons, List.take_succ_cons, List.take_zero] at e0 e1 e2 e3 e4 e5
     obtain ⟨a0, q0, r0, _⟩ := DataW.trod_string Tryz.underlying9 e0
     obtain ⟨a1, q1, r1⟩ := DataW.trod_bool Tryz.underlying4 e1
     obtain ⟨s2, q2, r2⟩ := scope_trod e2
     obtain ⟨s3, q3, r3⟩ := scope_trod e3
     obtain ⟨s4, q4, r4⟩ := scope_trod e4
     obtain ⟨A, ms, c, q5, h1, h2, h3, h4⟩ := open_rel (R := CdI W) Tryz.underlying45 cells_cond cd_ok (fun _ _ _ h => condI_trod h) e5
     simp only [List.cons.injEq, and_true] at q0 q1 q2 q3 q4 q5
     obtain ⟨g0, g1, g2, g3⟩ := q2
     obtain ⟨k0, k1, k2, k3⟩ := q3
     obtain ⟨l0, l1, l2, l3⟩ := q4
     subst q0 q1 g0 g1 g2 g3 k0 k1 k2 k3 l0 l1 l2 l3 q5 r0
     refine ⟨⟨⟨a0, a1, s2, s3, s4, ms.map CdM.cd⟩, ms, A, c⟩, rfl, fun hr => ?_⟩
     have hd : y.1 = .agg [strD a0, y1.1, scData s2, scData s3, scData s4, y5.1] := by
       rw [hy]
       show DataW.agg [_, _, y2.1, y3.1, y4.1, _] = _
       rw [r2, r3, r4]; rfl
     rw [hd] at hr
     have g : ∀ {j : Nat} {t : TypeId} {d : DataW H}, [9, 4, 44, 44, 44, 45][j]? = some t → [strD a0, y1.1, scData s2, scData s3, scData s4, y5.1][j]? = some d → Reach t d := fun ht hd n hn => hr n (by simp only [DataW.weights, Tryz.underlying47]; exact DataW.weights_mem_each ht hd n hn)
     have hc : ∀ x ∈ ms, x.e.length ≤ x.c ∧ x.c ≤ 9223372036854775807 ∧ NdSl W W.heap.size x.A x.e ∧ NdI x.e ∧ NdOk x.e := fun x hx => by
       rcases h4 with rfl | ⟨sp, ds, hs, h5⟩
       · cases hx
       · obtain ⟨d, hd, hR⟩ := h5 x hx
         refine ⟨hR.1, hR.2.1, hR.2.2.1, hR.2.2.2.1, hR.2.2.2.2 fun n hn => ?_⟩
         refine g (j := 5) rfl rfl n ?_
         rw [hs]
         exact slice_weights Tryz.underlying45 hd hn
     exact ⟨rfl, h1, h2, ⟨size_of_weight (g (j := 0) rfl rfl _ (by simp [strD, DataW.weights])), sc_weights (H := H) (g (j := 2) rfl rfl), sc_weights (H := H) (g (j := 3) rfl rfl), sc_weights (H := H) (g (j := 4) rfl rfl)⟩,
       ⟨h3, fun x hx => ⟨(hc x hx).2.2.1, (hc x hx).1, (hc x hx).2.1, (hc x hx).2.2.2.2⟩⟩, fun x hx => (hc x hx).2.2.2.1⟩
theorem open_policies {b0 : Nat} {v : Value} {d : DataW H} {p : List MemPlace} (hv : Value.okWide Tryz.prog W .any b0 67 v) (h : DataW.Trod enc Tryz.prog W 0 (fun _ => true) true 67 v d p) :
   ∃ (A : Option Addr) (ps : List PoM) (c : Nat), v = .slice A ps.length c ∧ ps.length ≤ c ∧ c ≤ 9223372036854775807 ∧ (Reach 67 d → PosIn W A ps) := by
 obtain ⟨a0, len, cap, rfl⟩ := okWide_slice Tryz.underlying67 hv
 obtain ⟨fuel, hf⟩ := h
 obtain ⟨A, xs, c, q1, h1, h2, h3, h4⟩ := open_rel (R := PoI W) Tryz.underlying67 cells_policy pom_ok (fun _ _ _ h => policyI_trod h) hf
 simp only [Value.cells, List.cons.injEq, and_true] at q1
 refine ⟨A, xs, c, q1, h1, h2, fun hr => ⟨h3, fun x hx => ?_⟩⟩
 rcases h4 with rfl | ⟨sp, ds, hd, h5⟩
 · cases hx
 · obtain ⟨d', hd', hR⟩ := h5 x hx
   refine hR fun n hn => hr n ?_
   rw [show d = DataW.slice ds sp from hd]
   exact slice_weights Tryz.underlying67 hd' hn
theorem policies_rec : Tryz.prog.readableRec 67 = true := by kernel_rfl
theorem policies_lt : 67 < Tryz.prog.types.size := of_decide_eq_true (by kernel_rfl)
end
end Go.Proofs.YtpheiojmcafolaaGreatDoor
namespace Go.Proofs.YtpheiojmcafolaaGreatDoor
open Go.RowKit Go.Extern.Stop Go.Stop Go.Extern
theorem Tryz.valueOfP (t : Addr) (w : World) : (ReflectliteValue.unpack (.iface 202 (.pointer (some t)))).run Tryz.prog w
   = .ok (.agg #[.pointer (some ⟨2, 202, none⟩), .pointer (some ⟨w.heap.size, 0, none⟩), .int .u64 150]) (w.alloc (.cells #[.pointer (some t)] 202)) := by kernel_rfl
theorem Tryz.typeP (a : Addr) (w : World) : (ReflectliteValue.methodAny (ReflectliteValue.valueError "reflectlite.Value.Type" 0) (fun t _ _ _ => ReflectliteType.toType t) #[.agg #[.pointer (some ⟨2, 202, none⟩), .pointer (some a), .int .u64 150]]).run Tryz.prog w
   = .ok (.iface 285 (.agg #[.pointer (some ⟨2, 202, none⟩)])) w := by kernel_rfl
theorem Tryz.kindP (w : World) : ((ReflectliteType.abiMethod fun t => (fun a : Nat => Value.int IntKind.u8 (a : Int)) <$> Rtype.kind t) #[.pointer (some ⟨2, 202, none⟩)]).run Tryz.prog w = .ok (.int .u8 22) w := by kernel_rfl
theorem Tryz.kindE (w : World) : ((ReflectliteType.abiMethod fun t => (fun a : Nat => Value.int IntKind.u8 (a : Int)) <$> Rtype.kind t) #[.pointer (some ⟨2, 96, none⟩)]).run Tryz.prog w = .ok (.int .u8 2) w := by kernel_rfl
theorem rlm (z : Sem Value) (f : TypeId → Addr → Nat → Nat → Sem Value) (v : Value) :
   ReflectliteValue.method z f #[v] = (do match ← ReflectliteValue.parts v with | none => z | some (t, a, fl) => f t a fl (fl % 32)) := rfl
theorem Tryz.partsP (a : Addr) (w : World) : (ReflectliteValue.parts (.agg #[.pointer (some ⟨2, 202, none⟩), .pointer (some a), .int .u64 150])).run Tryz.prog w = .ok (some (202, a, 150)) w := by kernel_rfl
theorem Tryz.isNilP (a p : Addr) (W : World) (ha : W.cell? a = some (.pointer (some p))) :
   (ReflectliteValue.method (ReflectliteValue.valueError "reflectlite.Value.IsNil" 0) ReflectliteValue.isNil #[.agg #[.pointer (some ⟨2, 202, none⟩), .pointer (some a), .int .u64 150]]).run Tryz.prog W = .ok (.bool false) W := by
 rw [rlm]
 simp only [Sem.run_bind, Tryz.partsP, Result.andThen]
 simp [ReflectliteValue.isNil, loadVar, isAgg, underlying, Tryz.underlying202, ha, Result.andThen]
theorem Tryz.elemP (w : World) : (ReflectliteType.method ReflectliteType.elem #[.agg #[.pointer (some ⟨2, 202, none⟩)]]).run Tryz.prog w = .ok (.iface 285 (.agg #[.pointer (some ⟨2, 96, none⟩)])) w := by kernel_rfl
theorem Tryz.implementsE (w : World) : (ReflectliteType.relation "Implements" ReflectliteType.implements_ #[.agg #[.pointer (some ⟨2, 96, none⟩)], .iface 285 (.agg #[.pointer (some ⟨2, 27, none⟩)])]).run Tryz.prog w = .ok (.bool true) w := by kernel_rfl
theorem Tryz.typeOfE (v : Value) (w : World) : (ReflectliteType.typeOf #[.iface 96 v]).run Tryz.prog w = .ok (.iface 285 (.agg #[.pointer (some ⟨2, 96, none⟩)])) w := by kernel_rfl
theorem Tryz.assignableE (w : World) : (ReflectliteType.relation "AssignableTo" ReflectliteType.assignableTo #[.agg #[.pointer (some ⟨2, 96, none⟩)], .iface 285 (.agg #[.pointer (some ⟨2, 96, none⟩)])]).run Tryz.prog w = .ok (.bool true) w := by kernel_rfl
theorem Tryz.valueOfE (k : Int) (w : World) : (ReflectliteValue.unpack (.iface 96 (.int .i64 k))).run Tryz.prog w
   = .ok (.agg #[.pointer (some ⟨2, 96, none⟩), .pointer (some ⟨w.heap.size, 0, none⟩), .int .u64 130]) (w.alloc (.cells #[.int .i64 k] 96)) := by kernel_rfl
theorem Tryz.elemOfP (w : World) : (Rtype.elem? 202).run Tryz.prog w = .ok (some 96) w := by kernel_rfl
theorem Tryz.mkE (p : Addr) (w : World) : (ReflectliteValue.mk 96 p ReflectliteValue.flagAddr).run Tryz.prog w = .ok (.agg #[.pointer (some ⟨2, 96, none⟩), .pointer (some p), .int .u64 386]) w := by kernel_rfl
theorem Tryz.elemVP (a p : Addr) (W : World) (ha : W.cell? a = some (.pointer (some p))) :
   (ReflectliteValue.method (ReflectliteValue.valueError "reflectlite.Value.Elem" 0) ReflectliteValue.elem #[.agg #[.pointer (some ⟨2, 202, none⟩), .pointer (some a), .int .u64 150]]).run Tryz.prog W
     = .ok (.agg #[.pointer (some ⟨2, 96, none⟩), .pointer (some p), .int .u64 386]) W := by
 rw [rlm]
 simp only [Sem.run_bind, Tryz.partsP, Result.andThen]
 simp [ReflectliteValue.elem, loadVar, isAgg, underlying, Tryz.underlying202, ha, Result.andThen, Tryz.elemOfP, Tryz.mkE]
end Go.Proofs.YtpheiojmcafolaaGreatDoor
namespace Go.Proofs.YtpheiojmcafolaaGreatDoor
open Go.RowKit Go.Extern.Stop Go.Stop Go.Extern
theorem rls (v x : Value) : ReflectliteValue.set #[v, x] = (do
   let (some (dst, a, fl), some (src, b, _)) := (← ReflectliteValue.parts v, ← ReflectliteValue.parts x)
     | unsupported (.noEntry "extern/(internal/reflectlite.Value).Set.zeroValue")
   if fl / ReflectliteValue.flagAddr % 2 == 0 then unsupported (.noEntry "extern/(internal/reflectlite.Value).Set.unaddressable")
   let val ← loadVar src b
   if ← Rtype.directlyAssignable dst src then storeVar dst a val
   else if ← Rtype.implements dst src then
     if (← Rtype.kind src) == 20 then
       match val with
       | .nilIface => unsupported (.noEntry "extern/reflectlite: a nil value of one interface type handed on as a value of another")
       | _ => storeVar dst a val
     else storeVar dst a (.iface src val)
   else panicString ("reflectlite.Set: value of type " ++ (← Rtype.spelt src) ++ " is not assignable to type " ++ (← Rtype.spelt dst))
   pure (.tuple #[])) := rfl
theorem Tryz.partsEa (a : Addr) (w : World) : (ReflectliteValue.parts (.agg #[.pointer (some ⟨2, 96, none⟩), .pointer (some a), .int .u64 386])).run Tryz.prog w = .ok (some (96, a, 386)) w := by kernel_rfl
theorem Tryz.partsE (a : Addr) (w : World) : (ReflectliteValue.parts (.agg #[.pointer (some ⟨2, 96, none⟩), .pointer (some a), .int .u64 130])).run Tryz.prog w = .ok (some (96, a, 130)) w := by kernel_rfl
theorem Tryz.directE (w : World) : (Rtype.directlyAssignable 96 96).run Tryz.prog w = .ok true w := by kernel_rfl
theorem Tryz.setE (ta b : Addr) (k : Int) (old : Value) (W : World) (hb : W.cell? b = some (.int .i64 k)) (ht : W.cell? ta = some old) (hf : W.frozen? ta = false) :
   (ReflectliteValue.set #[.agg #[.pointer (some ⟨2, 96, none⟩), .pointer (some ta), .int .u64 386], .agg #[.pointer (some ⟨2, 96, none⟩), .pointer (some b), .int .u64 130]]).run Tryz.prog W
     = .ok (.tuple #[]) (W.setCell ta (.int .i64 k)) := by
 rw [rls]
 simp only [Sem.run_bind, Tryz.partsEa, Tryz.partsE, Result.andThen]
 simp [ReflectliteValue.flagAddr, loadVar, isAgg, underlying, Tryz.underlying96, hb, Result.andThen, Tryz.directE, storeVar, Value.cells, storeCells, Addr.add]
 rw [run_store Tryz.prog W ta _ _ (by rfl)]
 simp [ht, hf]
theorem Tryz.methodKind (h : Value) (w : World) : (Go.method 513 285 (.agg #[h]) "Kind").run Tryz.prog w = .ok (268, h) w := by kernel_rfl
theorem Tryz.methodElem (h : Value) (w : World) : (Go.method 513 285 (.agg #[h]) "Elem").run Tryz.prog w = .ok (278, .agg #[h]) w := by kernel_rfl
theorem Tryz.methodImplements (h : Value) (w : World) : (Go.method 513 285 (.agg #[h]) "Implements").run Tryz.prog w = .ok (279, .agg #[h]) w := by kernel_rfl
theorem Tryz.methodAssignableTo (h : Value) (w : World) : (Go.method 513 285 (.agg #[h]) "AssignableTo").run Tryz.prog w = .ok (276, .agg #[h]) w := by kernel_rfl
set_option maxRecDepth 100000 in
set_option maxHeartbeats 4000000 in
theorem as_hit (k : Int) (t : Addr) (old : Value) (w : World) (hg : w.cell? ⟨0, 0, none⟩ = some (.iface 285 (.agg #[.pointer (some ⟨2, 27, none⟩)]))) (ht0 : w.cell? t = some old) (hf0 : w.frozen? t = false) :
   Calls Tryz.prog 142 #[.iface 96 (.int .i64 k), .iface 202 (.pointer (some t))] w fun ev w' => ev = .returned (.bool true) ∧ w' = ((((w.alloc (.cells #[.pointer (some t)] 202)).alloc (.cells #[.pointer (some ⟨2, 202, none⟩), .pointer (some ⟨w.heap.size, 0, none⟩), .int .u64 150] 256)).alloc (.cells #[.pointer (some ⟨2, 202, none⟩), .pointer (some ⟨w.heap.size, 0, none⟩), .int .u64 150] 256)).alloc (.cells #[.int .i64 k] 96)).setCell t (.int .i64 k) := by
 have h6 := @run_callFunc_extern Tryz.prog 171 _ (fun args => ReflectliteValue.unpack (args.getD 0 (.tuple #[]))) Tryz.func171 (by kernel_rfl) (by kernel_rfl) (by kernel_rfl) (by kernel_rfl)
 have h7 := @run_callFunc_extern Tryz.prog 172 _ (ReflectliteValue.methodAny (ReflectliteValue.valueError "reflectlite.Value.Type" 0) (fun t _ _ _ => ReflectliteType.toType t)) Tryz.func172 (by kernel_rfl) (by kernel_rfl) (by kernel_rfl) (by kernel_rfl)
 have h8 := @run_callFunc_extern Tryz.prog 173 _ (ReflectliteValue.method (ReflectliteValue.valueError "reflectlite.Value.IsNil" 0) ReflectliteValue.isNil) Tryz.func173 (by kernel_rfl) (by kernel_rfl) (by kernel_rfl) (by kernel_rfl)
 have h27 := @run_callFunc_extern Tryz.prog 268 _ (ReflectliteType.abiMethod fun t => do pure (.int .u8 (← Rtype.kind t))) Tryz.func268 (by kernel_rfl) (by kernel_rfl) (by kernel_rfl) (by kernel_rfl)
 have h37 := @run_callFunc_extern Tryz.prog 278 _ (ReflectliteType.method ReflectliteType.elem) Tryz.func278 (by kernel_rfl) (by kernel_rfl) (by kernel_rfl) (by kernel_rfl)
 have h38 := @run_callFunc_extern Tryz.prog 279 _ (ReflectliteType.relation "Implements" ReflectliteType.implements_) Tryz.func279 (by kernel_rfl) (by kernel_rfl) (by kernel_rfl) (by kernel_rfl)
 have h10 := @run_callFunc_extern Tryz.prog 198 _ ReflectliteType.typeOf Tryz.func198 (by kernel_rfl) (by kernel_rfl) (by kernel_rfl) (by kernel_rfl)
 have h35 := @run_callFunc_extern Tryz.prog 276 _ (ReflectliteType.relation "AssignableTo" ReflectliteType.assignableTo) Tryz.func276 (by kernel_rfl) (by kernel_rfl) (by kernel_rfl) (by kernel_rfl)
 have h11 := @run_callFunc_extern Tryz.prog 199 _ (ReflectliteValue.method (ReflectliteValue.valueError "reflectlite.Value.Elem" 0) ReflectliteValue.elem) Tryz.func199 (by kernel_rfl) (by kernel_rfl) (by kernel_rfl) (by kernel_rfl)
 have h12 := @run_callFunc_extern Tryz.prog 200 _ ReflectliteValue.set Tryz.func200 (by kernel_rfl) (by kernel_rfl) (by kernel_rfl) (by kernel_rfl)
 have f6 := Tryz.valueOfP
 have f7 := Tryz.typeP
 have mK := Tryz.methodKind
 have mE := Tryz.methodElem
 have mI := Tryz.methodImplements
 have mA := Tryz.methodAssignableTo
 have k27 := Tryz.kindP
 have k25 := Tryz.kindE
 have e27 := Tryz.elemP
 have i25 := Tryz.implementsE
 have tO := Tryz.typeOfE
 have a25 := Tryz.assignableE
 have v25 := Tryz.valueOfE
 have n8 := Tryz.isNilP ⟨w.heap.size, 0, none⟩ t ((w.alloc (.cells #[.pointer (some t)] 202)).alloc (.cells #[.pointer (some ⟨2, 202, none⟩), .pointer (some ⟨w.heap.size, 0, none⟩), .int .u64 150] 256)) (by simp)
 have hlt : 0 < w.heap.size := by
   rcases Nat.lt_or_ge 0 w.heap.size with h | h
   · exact h
   · simp [World.cell?, Array.getElem?_eq_none h] at hg
 have hg2 : ((w.alloc (.cells #[.pointer (some t)] 202)).alloc (.cells #[.pointer (some ⟨2, 202, none⟩), .pointer (some ⟨w.heap.size, 0, none⟩), .int .u64 150] 256)).cell? ⟨0, 0, none⟩ = some (.iface 285 (.agg #[.pointer (some ⟨2, 27, none⟩)])) := by
   rw [World.cell?_alloc_lt _ _ ⟨0, 0, none⟩ (by first | (simp; done) | (simp; omega)), World.cell?_alloc_lt _ _ ⟨0, 0, none⟩ hlt]; exact hg
 have htl : t.block < w.heap.size := by
   rcases Nat.lt_or_ge t.block w.heap.size with h | h
   · exact h
   · simp [World.cell?, Array.getElem?_eq_none h] at ht0
 have el := Tryz.elemVP ⟨w.heap.size, 0, none⟩ t (((w.alloc (.cells #[.pointer (some t)] 202)).alloc (.cells #[.pointer (some ⟨2, 202, none⟩), .pointer (some ⟨w.heap.size, 0, none⟩), .int .u64 150] 256)).alloc (.cells #[.pointer (some ⟨2, 202, none⟩), .pointer (some ⟨w.heap.size, 0, none⟩), .int .u64 150] 256)) (by rw [World.cell?_alloc_lt _ _ ⟨w.heap.size, 0, none⟩ (by simp; omega)]; simp)
 have st := Tryz.setE t ⟨w.heap.size + 1 + 1 + 1, 0, none⟩ k old ((((w.alloc (.cells #[.pointer (some t)] 202)).alloc (.cells #[.pointer (some ⟨2, 202, none⟩), .pointer (some ⟨w.heap.size, 0, none⟩), .int .u64 150] 256)).alloc (.cells #[.pointer (some ⟨2, 202, none⟩), .pointer (some ⟨w.heap.size, 0, none⟩), .int .u64 150] 256)).alloc (.cells #[.int .i64 k] 96))
   (by rw [World.cell?_alloc_at _ _ _ _ (by simp)] <;> rfl)
   (by rw [World.cell?_alloc_lt _ _ t (by simp; omega), World.cell?_alloc_lt _ _ t (by simp; omega), World.cell?_alloc_lt _ _ t (by simp; omega), World.cell?_alloc_lt _ _ t htl]; exact ht0)
   (by rw [World.frozen?_alloc_old _ _ t (by simp; omega), World.frozen?_alloc_old _ _ t (by simp; omega), World.frozen?_alloc_old _ _ t (by simp; omega), World.frozen?_alloc_old _ _ t (Nat.ne_of_lt htl)]; exact hf0)
 go_enter Tryz.func142, Tryz.ntmps142
 go_wp2
 refine wp_loop_rounds 1 ?_
 rw [rounds_succ]
 go_wp2
 go_ret
 exact ⟨rfl, rfl⟩
end Go.Proofs.YtpheiojmcafolaaGreatDoor
namespace Go.Proofs.YtpheiojmcafolaaGreatDoor
open Go.RowKit
def ErrCell (w : World) : Prop := w.cell? ⟨0, 0, none⟩ = some (.iface 285 (.agg #[.pointer (some ⟨2, 27, none⟩)]))
theorem ErrCell.lt {w : World} (h : ErrCell w) : 0 < w.heap.size := by
 rcases Nat.lt_or_ge 0 w.heap.size with h' | h'
 · exact h'
 · unfold ErrCell at h; simp [World.cell?, Array.getElem?_eq_none h'] at h
theorem ErrCell.below {w w' : World} {B : Nat} (h : ErrCell w) (hb : Below B w w') (hB : 0 < B) : ErrCell w' := (hb.cell (p := ⟨0, 0, none⟩) hB).trans h
end Go.Proofs.YtpheiojmcafolaaGreatDoor
namespace Go.Proofs.YtpheiojmcafolaaGreatDoor
section
variable {P : Program} {ops : Array Oper} {Q : Exit → Act → World → Prop} {S : World → Prop}
def ordOk (ops : Array Oper) : List (Nat × Bool) → Array Bool → Bool
 | [], d => (Region.ready .any ops d).isEmpty
 | (i, true) :: r, d => (Region.ready .any ops d == [i]) && ordOk ops r (d.setIfInBounds i true)
 | (i, false) :: r, d => Region.free .any ops d i && (Region.ready .any ops d).contains i && ordOk ops r (d.setIfInBounds i true)
def ordOps (l : List Oper) (L : List (Nat × Bool)) : List (Oper × Bool) := L.filterMap fun p => (l[p.1]?).map fun o => (o, p.2)
theorem any_of_ord {l : List Oper} (hsel : Region.noSelect l.toArray = true) (hQ : ∀ c (d : Tmp) v a w, Q (.panic c) (Act.put a (some d) v) w → Q (.panic c) a w) :
   ∀ (L : List (Nat × Bool)) (d : Array Bool) (a : Act) (w : World), (∀ p ∈ L, p.1 < l.length) → ordOk l.toArray L d = true → S w → wpHd P l.toArray Q S (ordOps l L) a w → wpAnyH P .any l.toArray Q S L.length d a w
 | [], d, a, w, _, hok, _, h => ⟨by simpa [ordOk] using hok, h⟩
 | (i, fl) :: r, d, a, w, hL, hok, hS, h => by
   have hil : i < l.length := hL (i, fl) (by simp)
   have hi : l.toArray[i]? = some l[i] := by simp [hil]
   have hL' : ∀ p ∈ r, p.1 < l.length := fun p hp => hL p (by simp [hp])
   have hc : ordOps l ((i, fl) :: r) = (l[i], fl) :: ordOps l r := by simp [ordOps, hil]
   rw [hc] at h
   cases fl with
   | false =>
     simp only [ordOk, Bool.and_eq_true] at hok
     obtain ⟨v, hy, hr⟩ := h
     exact wpAnyH_take hi hsel hok.1.1 hok.1.2 (fun c a w q => by
       cases hd : l[i].dst with
       | none => rw [hd] at q; exact q
       | some d => rw [hd] at q; exact hQ c _ _ a w q) hy hS (any_of_ord hsel hQ r _ _ w hL' hok.2 hS hr)
   | true =>
     simp only [ordOk, Bool.and_eq_true, beq_iff_eq] at hok
     refine wpAnyH_ready hok.1 (by simp) (AllReadyH.cons hi (fun K' hK => h K' (fun a' w' hS' hr => hK.out a' w' hS' (fun _ => ?_))) AllReadyH.nil)
     exact any_of_ord hsel hQ r _ a' w' hL' hok.2 hS' hr
def ordAll (ops : Array Oper) (L : List (Nat × Bool)) : Bool := Region.noSelect ops && L.all (fun p => decide (p.1 < ops.size)) && (L.length == ops.size) && ordOk ops L (Array.replicate ops.size false)
theorem wp_region_ord {l : List Oper} (L : List (Nat × Bool)) {id : Nat} {a : Act} {w : World} (hm : P.follows .mixedOrders = true) (hok : ordAll l.toArray L = true)
   (hQ : ∀ c (d : Tmp) v a w, Q (.panic c) (Act.put a (some d) v) w → Q (.panic c) a w) (hS : S w.drew) (h : S w.drew → wpHd P l.toArray Q S (ordOps l L) a w.drew) : (Code.region id l.toArray true).wp P Q a w :=
 wp_region_held_drew (S := S) hm hS (fun _ => by
   unfold ordAll at hok
   simp only [Bool.and_eq_true, beq_iff_eq, List.all_eq_true, decide_eq_true_eq] at hok
   obtain ⟨⟨⟨h1, h2⟩, h3⟩, h4⟩ := hok
   have h5 := any_of_ord (P := P) (S := S) h1 hQ L (Array.replicate l.toArray.size false) a w.drew (fun p hp => by have := h2 p hp; simpa using this) h4 hS (h hS)
   rw [h3] at h5
   exact h5)
end
end Go.Proofs.YtpheiojmcafolaaGreatDoor
namespace Go.Proofs.YtpheiojmcafolaaGreatDoor
set_option maxRecDepth 100000
open Go.RowKit Go.Sort
def noV (k : Int) : List PanicEntry := [{ v := .iface 96 (.int .i64 k), recovered := false }]
theorem val_lit (b : Nd) (W : World) (T : TypeId) : NdSl (W.alloc (.cells #[.int .i64 b.op, .int .i64 b.n, .string b.s, .string b.t] T)) (W.heap.size + 1) (some ⟨W.heap.size, 0, none⟩) [b] := fun _ =>
 ⟨W.heap.size, 0, rfl, by omega, fun i x hx => by
   cases i with
   | zero =>
     simp at hx; subst hx
     exact ⟨by simp [World.cell?_alloc_new], by simp [World.cell?_alloc_new], by simp [World.cell?_alloc_new], by simp [World.cell?_alloc_new]⟩
   | succ i => simp at hx⟩
theorem new_val (b : Nd) (w : World) (T : TypeId) {W : World} (hb : RowKit.Below w.heap.size w W) : NdsNew w (.returned (.slice (some ⟨W.heap.size, 0, none⟩) 1 1)) (W.alloc (.cells #[.int .i64 b.op, .int .i64 b.n, .string b.s, .string b.t] T)) [b] := by
 have := hb.size
 exact ⟨_, 1, rfl, by simp, by omega, by rw [World.size_alloc]; exact val_lit b W T, by (repeat (first | assumption | exact Below.refl _ _ | apply Below.drew | apply below_drewN | (refine Below.alloc ?_ (by first | exact Nat.le_refl _ | omega | (simp; done) | (simp; omega)) _))), fun b' o h => by injection h with h; injection h with h _; omega⟩
set_option maxHeartbeats 1600000 in
theorem eval_is (v : List Nd) (op : Int) (A : Option Addr) (c : Nat) (w : World) (hv : ValIn v A c w) : Calls Tryz.prog 140 #[.slice A v.length c, .int .i64 op] w fun r w' => r = .returned (.bool (opH v == op)) ∧ w' = w := by
 obtain ⟨x, xr, b, o, hx, rfl, hb, ⟨x0, -, -, -⟩, ho, -, -, -, hl⟩ := hv.head
 have hl' : (0 : Int) < (v.length : Int) := by omega
 rw [ho]
 clear hv hx ho hl
 go_enter Tryz.func140, Tryz.ntmps140
 go_wp2_with fail
 go_ret
 exact ⟨rfl, rfl⟩
set_option maxHeartbeats 1600000 in
theorem eval_truth (q : Bool) (w : World) : Calls Tryz.prog 111 #[.bool q] w fun r w' => NdsNew w r w' [bN q] := by
 cases q <;> (
   go_enter Tryz.func111, Tryz.ntmps111
   go_wp2_with fail
   go_ret
   exact new_val (bN _) w 37 (RowKit.Below.refl _ _))
set_option maxHeartbeats 1600000 in
theorem eval_must (v : List Nd) (op : Int) (A : Option Addr) (c : Nat) (w : World) (hv : ValIn v A c w) : Calls Tryz.prog 108 #[.slice A v.length c, .int .i64 op] w fun r w' => ((opH v = op → r = .returned (.slice A v.length c)) ∧ (opH v ≠ op → r = .panicked (noV 2))) ∧ w' = w := by
 have HI := Lib.hid (eval_is v op A c w hv)
 by_cases h : opH v = op
 · have t : (opH v == op) = true := by simp [h]
   rw [t] at HI
   have HH := Lib.hid h
   clear h hv t
   go_enter Tryz.func108, Tryz.ntmps108
   go_wp2_with fail
   refine HI.out.mono ?_
   rintro r w1 ⟨rfl, rfl⟩
   go_wp2_with fail
   go_ret
   exact ⟨⟨fun _ => rfl, fun h => absurd HH.out h⟩, rfl⟩
 · have t : (opH v == op) = false := by simp [h]
   rw [t] at HI
   have HH := Lib.hid h
   clear h hv t
   go_enter Tryz.func108, Tryz.ntmps108
   go_wp2_with fail
   refine HI.out.mono ?_
   rintro r w1 ⟨rfl, rfl⟩
   go_wp2_with fail
   exact ⟨rfl, ⟨fun h => absurd h HH.out, fun _ => rfl⟩, rfl⟩
set_option maxHeartbeats 1600000 in
theorem eval_entity (u : Ud) (w : World) : Calls Tryz.prog 107 #[.agg #[.string u.ty, .string u.id]] w fun r w' => NdsNew w r w' [eN u] := by
 go_enter Tryz.func107, Tryz.ntmps107
 go_wp2_with fail
 go_ret
 have h := new_val (eN u) w 37 (W := w.alloc (.cells #[.string u.ty, .string u.id] 34)) (by (repeat (first | assumption | exact Below.refl _ _ | apply Below.drew | apply below_drewN | (refine Below.alloc ?_ (by first | exact Nat.le_refl _ | omega | (simp; done) | (simp; omega)) _))))
 rw [World.size_alloc] at h
 exact h
theorem as_nil (t : Addr) (w : World) : Calls Tryz.prog 142 #[.nilIface, .iface 202 (.pointer (some t))] w fun r w' => r = .returned (.bool false) ∧ w' = w := by
 go_enter Tryz.func142, Tryz.ntmps142
 go_wp2_with fail
 go_ret
 exact ⟨rfl, rfl⟩
theorem as_mine (k : Int) (w : World) (hg : ErrCell w) : Calls Tryz.prog 142 #[.iface 96 (.int .i64 k), .iface 202 (.pointer (some ⟨w.heap.size, 0, none⟩))] (w.alloc (.cells #[.int .i64 0] 96)) fun r w' =>
   r = .returned (.bool true) ∧ w'.cell? ⟨w.heap.size, 0, none⟩ = some (.int .i64 k) ∧ RowKit.Below w.heap.size w w' := by
 refine (as_hit k ⟨w.heap.size, 0, none⟩ (.int .i64 0) (w.alloc (.cells #[.int .i64 0] 96)) (by rw [World.cell?_alloc_lt _ _ ⟨0, 0, none⟩ hg.lt]; exact hg) (by simp) (by simp)).mono ?_
 rintro r w1 ⟨rfl, hw⟩
 refine ⟨rfl, by rw [hw]; simp [go_sem], ?_⟩
 rw [hw]
 exact RowKit.Below.setCell (B := w.heap.size) (p := ⟨w.heap.size, 0, none⟩) (by (repeat (first | assumption | exact Below.refl _ _ | apply Below.drew | apply below_drewN | (refine Below.alloc ?_ (by first | exact Nat.le_refl _ | omega | (simp; done) | (simp; omega)) _)))) (Nat.le_refl _) _
set_option maxHeartbeats 1600000 in
theorem told_int (x : Value) (k : Int) (w : World) (hg : ErrCell w) : Calls Tryz.prog 112 #[x, errV k] w fun r w' => ((k = 0 → r = .returned x) ∧ (k ≠ 0 → r = .panicked (noV k))) ∧ RowKit.Below w.heap.size w w' := by
 by_cases h0 : k = 0
 · have HH := Lib.hid h0
   have HN := Lib.hid (as_nil ⟨w.heap.size, 0, none⟩ (w.alloc (.cells #[.int .i64 0] 96)))
   have e : errV k = .nilIface := by rw [h0]; rfl
   rw [e]
   clear h0 e hg
   go_enter Tryz.func112, Tryz.ntmps112
   go_wp2_with fail
   refine HN.out.mono ?_
   rintro r w1 ⟨rfl, rfl⟩
   go_wp2_with fail
   go_ret
   exact ⟨⟨fun _ => rfl, fun h => absurd HH.out h⟩, by (repeat (first | assumption | exact Below.refl _ _ | apply Below.drew | apply below_drewN | (refine Below.alloc ?_ (by first | exact Nat.le_refl _ | omega | (simp; done) | (simp; omega)) _)))⟩
 · have HH := Lib.hid h0
   have HM := Lib.hid (as_mine k w hg)
   rw [errV_pos h0]
   clear h0 hg
   go_enter Tryz.func112, Tryz.ntmps112
   go_wp2_with fail
   refine HM.out.mono ?_
   rintro r w1 ⟨rfl, hc, hb⟩
   have HB := Lib.hid hb
   clear hb
   go_wp2_with fail
   exact ⟨rfl, ⟨fun h => absurd h HH.out, fun _ => rfl⟩, HB.out⟩
set_option maxHeartbeats 1600000 in
theorem told_bool (x : Value) (k : Int) (w : World) (hg : ErrCell w) : Calls Tryz.prog 114 #[x, errV k] w fun r w' => ((k = 0 → r = .returned x) ∧ (k ≠ 0 → r = .panicked (noV k))) ∧ RowKit.Below w.heap.size w w' := by
 by_cases h0 : k = 0
 · have HH := Lib.hid h0
   have HN := Lib.hid (as_nil ⟨w.heap.size, 0, none⟩ (w.alloc (.cells #[.int .i64 0] 96)))
   have e : errV k = .nilIface := by rw [h0]; rfl
   rw [e]
   clear h0 e hg
   go_enter Tryz.func114, Tryz.ntmps114
   go_wp2_with fail
   refine HN.out.mono ?_
   rintro r w1 ⟨rfl, rfl⟩
   go_wp2_with fail
   go_ret
   exact ⟨⟨fun _ => rfl, fun h => absurd HH.out h⟩, by (repeat (first | assumption | exact Below.refl _ _ | apply Below.drew | apply below_drewN | (refine Below.alloc ?_ (by first | exact Nat.le_refl _ | omega | (simp; done) | (simp; omega)) _)))⟩
 · have HH := Lib.hid h0
   have HM := Lib.hid (as_mine k w hg)
   rw [errV_pos h0]
   clear h0 hg
   go_enter Tryz.func114, Tryz.ntmps114
   go_wp2_with fail
   refine HM.out.mono ?_
   rintro r w1 ⟨rfl, hc, hb⟩
   have HB := Lib.hid hb
   clear hb
   go_wp2_with fail
   exact ⟨rfl, ⟨fun h => absurd h HH.out, fun _ => rfl⟩, HB.out⟩
set_option maxHeartbeats 1600000 in
theorem told_nds (x : Value) (k : Int) (w : World) (hg : ErrCell w) : Calls Tryz.prog 118 #[x, errV k] w fun r w' => ((k = 0 → r = .returned x) ∧ (k ≠ 0 → r = .panicked (noV k))) ∧ RowKit.Below w.heap.size w w' := by
 by_cases h0 : k = 0
 · have HH := Lib.hid h0
   have HN := Lib.hid (as_nil ⟨w.heap.size, 0, none⟩ (w.alloc (.cells #[.int .i64 0] 96)))
   have e : errV k = .nilIface := by rw [h0]; rfl
   rw [e]
   clear h0 e hg
   go_enter Tryz.func118, Tryz.ntmps118
   go_wp2_with fail
   refine HN.out.mono ?_
   rintro r w1 ⟨rfl, rfl⟩
   go_wp2_with fail
   go_ret
   exact ⟨⟨fun _ => rfl, fun h => absurd HH.out h⟩, by (repeat (first | assumption | exact Below.refl _ _ | apply Below.drew | apply below_drewN | (refine Below.alloc ?_ (by first | exact Nat.le_refl _ | omega | (simp; done) | (simp; omega)) _)))⟩
 · have HH := Lib.hid h0
   have HM := Lib.hid (as_mine k w hg)
   rw [errV_pos h0]
   clear h0 hg
   go_enter Tryz.func118, Tryz.ntmps118
   go_wp2_with fail
   refine HM.out.mono ?_
   rintro r w1 ⟨rfl, hc, hb⟩
   have HB := Lib.hid hb
   clear hb
   go_wp2_with fail
   exact ⟨rfl, ⟨fun h => absurd h HH.out, fun _ => rfl⟩, HB.out⟩
set_option maxHeartbeats 1600000 in
theorem told_lists (x : Value) (k : Int) (w : World) (hg : ErrCell w) : Calls Tryz.prog 147 #[x, errV k] w fun r w' => ((k = 0 → r = .returned x) ∧ (k ≠ 0 → r = .panicked (noV k))) ∧ RowKit.Below w.heap.size w w' := by
 by_cases h0 : k = 0
 · have HH := Lib.hid h0
   have HN := Lib.hid (as_nil ⟨w.heap.size, 0, none⟩ (w.alloc (.cells #[.int .i64 0] 96)))
   have e : errV k = .nilIface := by rw [h0]; rfl
   rw [e]
   clear h0 e hg
   go_enter Tryz.func147, Tryz.ntmps147
   go_wp2_with fail
   refine HN.out.mono ?_
   rintro r w1 ⟨rfl, rfl⟩
   go_wp2_with fail
   go_ret
   exact ⟨⟨fun _ => rfl, fun h => absurd HH.out h⟩, by (repeat (first | assumption | exact Below.refl _ _ | apply Below.drew | apply below_drewN | (refine Below.alloc ?_ (by first | exact Nat.le_refl _ | omega | (simp; done) | (simp; omega)) _)))⟩
 · have HH := Lib.hid h0
   have HM := Lib.hid (as_mine k w hg)
   rw [errV_pos h0]
   clear h0 hg
   go_enter Tryz.func147, Tryz.ntmps147
   go_wp2_with fail
   refine HM.out.mono ?_
   rintro r w1 ⟨rfl, hc, hb⟩
   have HB := Lib.hid hb
   clear hb
   go_wp2_with fail
   exact ⟨rfl, ⟨fun h => absurd h HH.out, fun _ => rfl⟩, HB.out⟩
theorem val_at0 (b o n c : Nat) (h : 0 < n) (W : World) : (Instr.indexAt 100 (.slice (some ⟨b, o, none⟩) n c) (.int .i64 0)).run Tryz.prog W = .ok (.pointer (some ⟨b, o, none⟩)) W := by
 have h0 : (0 : Int) < (n : Int) := by omega
 go_simp
structure UidS (b o : Nat) (x : Nd) (W : World) : Prop where
 s2 : W.cell? ⟨b, o + 2, none⟩ = some (.string x.s)
 s3 : W.cell? ⟨b, o + 3, none⟩ = some (.string x.t)
set_option maxHeartbeats 3200000 in
theorem eval_uid (v : List Nd) (A : Option Addr) (c : Nat) (w : World) (hv : ValIn v A c w) : Calls Tryz.prog 145 #[.slice A v.length c] w fun r w' => r = .returned (.agg #[.string (udH v).ty, .string (udH v).id]) ∧ RowKit.Below w.heap.size w w' := by
 obtain ⟨x, xr, b, o, hx, rfl, hb, ⟨-, -, x2, x3⟩, -, -, -, hu, hl⟩ := hv.head
 have hl' : (0 : Int) < (v.length : Int) := by omega
 rw [hu]
 have hia := val_at0 b o v.length c hl
 clear hv hx hu hl
 have hb0 : RowKit.Below w.heap.size w (w.alloc (.cells #[.string ⟨#[]⟩, .string ⟨#[]⟩] 34)) := by (repeat (first | assumption | exact Below.refl _ _ | apply Below.drew | apply below_drewN | (refine Below.alloc ?_ (by first | exact Nat.le_refl _ | omega | (simp; done) | (simp; omega)) _)))
 have e2 := (hb0.cell (p := ⟨b, o + 2, none⟩) hb).trans x2
 have e3 := (hb0.cell (p := ⟨b, o + 3, none⟩) hb).trans x3
 clear x2 x3
 go_enter Tryz.func145, Tryz.ntmps145
 go_wp2_with fail
 refine wp_region_hd (S := UidS b o x) [false, false, false, false, false, false, false, false, false, true] (by kernel_rfl) (by kernel_rfl) (fun _ _ _ _ _ h => h) ⟨e2, e3⟩ (fun hW' => ?_)
 simp only [List.zip_cons_cons, List.zip_nil_left]
 (repeat (first | (refine hd_take (v := ?_) (by rfl) ?_ ?_; rotate_left; (focus (intro W hW; obtain ⟨s2, s3⟩ := hW; go_simp; try with_reducible rfl)); simp only [Act.put, List.setIfInBounds_toArray, List.set_cons_zero, List.set_cons_succ]) | (refine hd_skip (by rfl) ?_; simp only [Act.put, List.setIfInBounds_toArray, List.set_cons_zero, List.set_cons_succ])))
 refine hd_call (fun K hK => ?_)
 go_simp
 have hb1 : RowKit.Below w.heap.size w (w.alloc (.cells #[.string x.s, .string x.t] 34)).drew := by (repeat (first | assumption | exact Below.refl _ _ | apply Below.drew | apply below_drewN | (refine Below.alloc ?_ (by first | exact Nat.le_refl _ | omega | (simp; done) | (simp; omega)) _)))
 have f2 := (hb1.cell (p := ⟨b, o + 2, none⟩) hb).trans ((hb0.cell (p := ⟨b, o + 2, none⟩) hb).symm.trans e2)
 have f3 := (hb1.cell (p := ⟨b, o + 3, none⟩) hb).trans ((hb0.cell (p := ⟨b, o + 3, none⟩) hb).symm.trans e3)
 refine hK _ _ ⟨f2, f3⟩ ?_
 clear hK K
 refine hd_nil ?_
 go_wp2_with fail
 exact bodyPost_ret (v := .agg #[.string x.s, .string x.t]) (by simp [results, Tryz.results145, go_sem]) rfl ⟨rfl, hb1⟩
end Go.Proofs.YtpheiojmcafolaaGreatDoor
namespace Go.Proofs.YtpheiojmcafolaaGreatDoor
set_option maxRecDepth 100000
open Go.RowKit Go.Sort Go.Maps
structure InS (b0 : Nat) (a : Ud) (W : World) : Prop where
 s0 : W.cell? ⟨b0, 0, none⟩ = some (.string a.ty)
 s1 : W.cell? ⟨b0, 1, none⟩ = some (.string a.id)
theorem ents_nd {w : World} {A : Option Addr} {hs : List Eh} {es : List En} (hI : EntsIn w A hs es) (h : entErr es = 0) : es.length ≤ 16 ∧ (hs.map Eh.u).Nodup ∧ ∀ e ∈ es, e.up.length ≤ 6 := by
 unfold entErr at h
 by_cases h16 : 16 < es.length
 · rw [if_pos h16] at h; omega
 · rw [if_neg h16] at h
   by_cases hf : fnz (entAt es) es.length = 0
   · have hz := fnz_all hf
     refine ⟨by omega, ?_, fun e he => ?_⟩
     · have := ents_nodup es.length hz
       rw [List.take_of_length_le (Nat.le_refl _)] at this
       rw [ens_us hI.ens]; exact this
     · obtain ⟨i, hi⟩ := List.mem_iff_getElem?.1 he
       exact entOne_up (entAt_zero hi (hz i (List.getElem?_eq_some_iff.1 hi).1)).2.2
   · rw [if_pos hf] at h; exact absurd h hf
set_option maxHeartbeats 6400000 in
theorem ent_In (hs : List Eh) (es : List En) (a b : Ud) (A : Option Addr) (c : Nat) (w : World) (hI : EntsIn w A hs es) (hc : hs.length ≤ c) (ha : UdSm a) (hb : UdSm b) :
   Calls Tryz.prog 64 #[.slice A hs.length c, .agg #[.string a.ty, .string a.id], .agg #[.string b.ty, .string b.id]] w fun r w' => r = .returned (.tuple #[.bool (if entErr es = 0 then inB es a b else false), errV (entErr es)]) ∧ RowKit.Below w.heap.size w w' := by
 have HI := Lib.hid hI
 obtain ⟨w0, hw0⟩ : ∃ w0, (w.alloc (.cells #[.string a.ty, .string a.id] 34)).alloc (.cells #[.string b.ty, .string b.id] 34) = w0 := ⟨_, rfl⟩
 have hb0 : RowKit.Below w.heap.size w w0 := by rw [← hw0]; (repeat (first | assumption | exact Below.refl _ _ | apply Below.drew | apply below_drewN | (refine Below.alloc ?_ (by first | exact Nat.le_refl _ | omega | (simp; done) | (simp; omega)) _)))
 have hz0 : w0.heap.size = w.heap.size + 2 := by rw [← hw0]; simp
 have a0 : w0.cell? ⟨w.heap.size, 0, none⟩ = some (.string a.ty) := by rw [← hw0, World.cell?_alloc_lt _ _ ⟨w.heap.size, 0, none⟩ (by simp)]; simp [World.cell?_alloc_new]
 have a1 : w0.cell? ⟨w.heap.size, 1, none⟩ = some (.string a.id) := by rw [← hw0, World.cell?_alloc_lt _ _ ⟨w.heap.size, 1, none⟩ (by simp)]; simp [World.cell?_alloc_new]
 have b0 : w0.cell? ⟨w.heap.size + 1, 0, none⟩ = some (.string b.ty) := by rw [← hw0]; simp [go_sem]
 have b1 : w0.cell? ⟨w.heap.size + 1, 1, none⟩ = some (.string b.id) := by rw [← hw0]; simp [go_sem]
 have HC := Lib.hid (ent_Check hs es A c w0 (hI.later hb0) hc)
 have HW0 := Lib.hid hw0
 have hlt0 : w.heap.size + 1 < w0.heap.size := by omega
 clear hI hw0 hz0
 have hmm := @run_makeMap Tryz.prog
 by_cases he : entErr es = 0
 · have te : (entErr es != 0) = false := by simp [he]
   have HE := Lib.hid he
   rw [if_pos he]
   clear he
   go_enter Tryz.func64, Tryz.ntmps64
   go_wp2_with fail
   rw [HW0.out]
   refine HC.out.mono ?_
   rintro r w1 ⟨rfl, hb1⟩
   have hz1 := hb1.size
   have d0 := (hb1.cell (p := ⟨w.heap.size, 0, none⟩) (by show w.heap.size < _; omega)).trans a0
   have d1 := (hb1.cell (p := ⟨w.heap.size, 1, none⟩) (by show w.heap.size < _; omega)).trans a1
   have f0 := (hb1.cell (p := ⟨w.heap.size + 1, 0, none⟩) hlt0).trans b0
   have f1 := (hb1.cell (p := ⟨w.heap.size + 1, 1, none⟩) hlt0).trans b1
   have hw1 : RowKit.Below w.heap.size w w1 := hb0.trans (hb1.mono hb0.size)
   clear hb1 a0 a1 b0 b1
   obtain ⟨w2, hr2, hM2, hg2⟩ := met_put (met_made w1) ha (by simp)
   have hg12 : RowKit.Below w1.heap.size w1 w2 := RowKit.Below.grown (w := w1.alloc (.map #[] 0)) (by (repeat (first | assumption | exact Below.refl _ _ | apply Below.drew | apply below_drewN | (refine Below.alloc ?_ (by first | exact Nat.le_refl _ | omega | (simp; done) | (simp; omega)) _)))) hg2 (by simp) (fun j hj => by injection hj with hj; omega)
   have hz2 : w1.heap.size < w2.heap.size := hM2.lt
   have k0 := (hg12.cell (p := ⟨w.heap.size, 0, none⟩) (by show w.heap.size < _; omega)).trans d0
   have k1 := (hg12.cell (p := ⟨w.heap.size, 1, none⟩) (by show w.heap.size < _; omega)).trans d1
   have j0 := (hg12.cell (p := ⟨w.heap.size + 1, 0, none⟩) (by show w.heap.size + 1 < _; omega)).trans f0
   have j1 := (hg12.cell (p := ⟨w.heap.size + 1, 1, none⟩) (by show w.heap.size + 1 < _; omega)).trans f1
   have HM2 : Hid (MetAt w2 w1.heap.size [a]) := hM2
   have hw2 : RowKit.Below w.heap.size w w2 := hw1.trans (hg12.mono (by omega))
   have HW2 := Lib.hid hw2
   have HI2 := Lib.hid ((HI.out.later hw2).later (w' := w2.drew) (by (repeat (first | assumption | exact Below.refl _ _ | apply Below.drew | apply below_drewN | (refine Below.alloc ?_ (by first | exact Nat.le_refl _ | omega | (simp; done) | (simp; omega)) _)))))
   obtain ⟨g1, g2, g3⟩ := ents_nd HI.out HE.out
   have HLN : Hid (hs.length = es.length) := HI.out.ens.len
   have HUP := Lib.hid g3
   have HST := Lib.hid (ent_stored hs A c w2.drew (by have := HLN.out; omega) HI2.out.sl (fun h hh => by
     have h1 : h.u ∈ es.map En.u := by rw [← ens_us HI.out.ens]; exact List.mem_map.2 ⟨h, hh, rfl⟩
     obtain ⟨e, he, h2⟩ := List.mem_map.1 h1
     rw [← h2]
     exact sm_of_ok (HI.out.uz e he)) g2)
   have m0 : (w1.alloc (.map #[] 0)).cell? ⟨w.heap.size, 0, none⟩ = some (.string a.ty) := (World.cell?_alloc_lt _ _ ⟨w.heap.size, 0, none⟩ (by show w.heap.size < _; omega)).trans d0
   have m1 : (w1.alloc (.map #[] 0)).cell? ⟨w.heap.size, 1, none⟩ = some (.string a.id) := (World.cell?_alloc_lt _ _ ⟨w.heap.size, 1, none⟩ (by show w.heap.size < _; omega)).trans d1
   clear hM2 hg2 hg12 g2 g3 d0 d1 f0 f1
   go_wp2_with fail
   refine wp_region_ord (S := InS w.heap.size a) [(0, false), (2, false), (3, false), (1, true), (4, true)] (by kernel_rfl) (by kernel_rfl) (fun _ _ _ _ _ h => h) ⟨k0, k1⟩ (fun hW' => ?_)
   simp only [ordOps, List.filterMap_cons, List.filterMap_nil, List.getElem?_cons_zero, List.getElem?_cons_succ, Option.map_some]
   (repeat (first | (refine hd_take (v := ?_) (by rfl) ?_ ?_; rotate_left; (focus (intro W hW; obtain ⟨s0, s1⟩ := hW; go_simp; try with_reducible rfl)); simp only [Act.put, List.setIfInBounds_toArray, List.set_cons_zero, List.set_cons_succ]) | (refine hd_skip (by rfl) ?_; simp only [Act.put, List.setIfInBounds_toArray, List.set_cons_zero, List.set_cons_succ])))
   refine hd_call (fun K hK => ?_)
   go_simp
   refine HST.out.mono ?_
   rintro r w3 ⟨sb, rfl, hsb, hst, hb3'⟩
   have hb3 := below_of_drew hb3'
   have hsb' : w2.heap.size ≤ sb := hsb
   obtain ⟨hcc3, -⟩ := bcell hb3
   refine hK _ _ ⟨(hcc3 _ _ (by omega)).trans k0, (hcc3 _ _ (by omega)).trans k1⟩ ?_
   clear hK K
   have p0 := (hcc3 _ 0 (by omega : w.heap.size < w2.heap.size)).trans k0
   have p1 := (hcc3 _ 1 (by omega : w.heap.size < w2.heap.size)).trans k1
   have q0 := (hcc3 _ 0 (by omega : w.heap.size + 1 < w2.heap.size)).trans j0
   have q1 := (hcc3 _ 1 (by omega : w.heap.size + 1 < w2.heap.size)).trans j1
   have HM3 : Hid (MetAt w3 w1.heap.size [a]) := HM2.out.kept (row := none) ⟨hb3.os, hb3.tape, hb3.output, hb3.size, fun k hk _ => hb3.block k hk⟩ (by simp)
   have hw3 : RowKit.Below w.heap.size w w3 := HW2.out.trans (hb3.mono (by omega))
   have hsb3 := hst.lt
   have hum := unm_small g1 HUP.out [a]
   have HAB := Lib.hid (above_all es (fun p hp => by obtain ⟨e, he, h⟩ := List.mem_flatMap.1 hp; exact sm_of_ok (HI.out.pz e he p h)) 100 hs a [a] w3 w.heap.size sb w1.heap.size
     ⟨hst, HM3.out, HI.out.ens.below hw3, by omega, by omega, by omega⟩ ha (by omega) (by simp; omega))
   clear hst hum hb3' hcc3 k0 k1 j0 j1
   (repeat (first | (refine hd_take (v := ?_) (by rfl) ?_ ?_; rotate_left; (focus (intro W hW; obtain ⟨s0, s1⟩ := hW; go_simp; try with_reducible rfl)); simp only [Act.put, List.setIfInBounds_toArray, List.set_cons_zero, List.set_cons_succ]) | (refine hd_skip (by rfl) ?_; simp only [Act.put, List.setIfInBounds_toArray, List.set_cons_zero, List.set_cons_succ])))
   refine hd_call (fun K hK => ?_)
   go_simp
   refine HAB.out.mono ?_
   rintro r w4 ⟨rfl, hM4, hg4⟩
   have hz3 := hb3.size
   have r0 : w4.cell? ⟨w.heap.size, 0, none⟩ = w3.cell? ⟨w.heap.size, 0, none⟩ := World.cell?_of_block (a := ⟨w.heap.size, 0, none⟩) (hg4.block w.heap.size (by omega) (by intro e; injection e with e; omega))
   have r1 : w4.cell? ⟨w.heap.size, 1, none⟩ = w3.cell? ⟨w.heap.size, 1, none⟩ := World.cell?_of_block (a := ⟨w.heap.size, 1, none⟩) (hg4.block w.heap.size (by omega) (by intro e; injection e with e; omega))
   have HN4 : Hid (w4.cell? ⟨w.heap.size, 0, none⟩ = some (.string a.ty) ∧ w4.cell? ⟨w.heap.size, 1, none⟩ = some (.string a.id)) := ⟨r0.trans p0, r1.trans p1⟩
   refine hK _ _ ⟨HN4.out.1, HN4.out.2⟩ ?_
   clear hK K
   refine hd_nil ?_
   have u0 : w4.cell? ⟨w.heap.size + 1, 0, none⟩ = some (.string b.ty) := (World.cell?_of_block (a := ⟨w.heap.size + 1, 0, none⟩) (hg4.block (w.heap.size + 1) (by omega) (by intro e; injection e with e; omega))).trans q0
   have u1 : w4.cell? ⟨w.heap.size + 1, 1, none⟩ = some (.string b.id) := (World.cell?_of_block (a := ⟨w.heap.size + 1, 1, none⟩) (hg4.block (w.heap.size + 1) (by omega) (by intro e; injection e with e; omega))).trans q1
   have hlk := met_look hM4 hb
   have hw4 : RowKit.Below w.heap.size w w4 := hw3.grown hg4 (by omega) (fun j hj => by injection hj with hj; omega)
   have HV : Hid (inB es a b = decide (b ∈ abv es 100 a [a])) := rfl
   clear hM4 hg4 q0 q1 r0 r1 HN4
   by_cases hm : b ∈ abv es 100 a [a]
   · rw [if_pos hm] at hlk
     have HVV : Hid (inB es a b = true) := by show _ = _; rw [HV.out, decide_eq_true hm]
     clear hm HV
     go_wp2_with fail
     go_ret2
     rw [HE.out, HVV.out]
     exact ⟨rfl, hw4⟩
   · rw [if_neg hm] at hlk
     have HVV : Hid (inB es a b = false) := by show _ = _; rw [HV.out, decide_eq_false hm]
     clear hm HV
     go_wp2_with fail
     go_ret2
     rw [HE.out, HVV.out]
     exact ⟨rfl, hw4⟩
 · have te : (entErr es != 0) = true := by simp [he]
   rw [if_neg he]
   generalize entErr es = k at HC te ⊢
   clear he
   go_enter Tryz.func64, Tryz.ntmps64
   go_wp2_with fail
   rw [HW0.out]
   refine HC.out.mono ?_
   rintro r w1 ⟨rfl, hb1⟩
   have hw1 : RowKit.Below w.heap.size w w1 := hb0.trans (hb1.mono hb0.size)
   clear hb1 a0 a1 b0 b1
   go_wp2_with fail
   go_ret2
   exact ⟨rfl, hw1⟩
end Go.Proofs.YtpheiojmcafolaaGreatDoor
namespace Go.Proofs.YtpheiojmcafolaaGreatDoor
set_option maxRecDepth 100000
open Go.RowKit Go.Sort
structure Evl where
 es : List En
 hs : List Eh
 Ea : Option Addr
 ec : Nat
 q : Rq
 qa : Option Addr
 qc : Nat
 e : List Nd
 ea : Option Addr
 eca : Nat
def Evl.cells (x : Evl) (i : Nat) : Array Value := #[.slice x.Ea x.hs.length x.ec, .string x.q.who.ty, .string x.q.who.id, .string x.q.act.ty, .string x.q.act.id, .string x.q.what.ty, .string x.q.what.id, .slice x.qa x.q.ctx.length x.qc, .slice x.ea x.e.length x.eca, .int .i64 i]
structure EvIn (x : Evl) (B : Nat) (w : World) : Prop where
 sl : EhSl w B x.Ea x.hs
 ens : Ens w B x.hs x.es
 uz : ∀ e ∈ x.es, UdOk e.u
 pz : ∀ e ∈ x.es, ∀ p ∈ e.up, UdOk p
 az : ∀ e ∈ x.es, NdOk e.at_
 ai : ∀ e ∈ x.es, NdI e.at_
 ec : x.hs.length ≤ x.ec
 ok : entErr x.es = 0
 ctx : NdSl w B x.qa x.q.ctx
 qc : x.q.ctx.length ≤ x.qc ∧ x.qc ≤ 9223372036854775807
 qk : NdOk x.q.ctx
 qi : NdI x.q.ctx
 qv : rqErr x.q = 0
 qz : UdOk x.q.who ∧ UdOk x.q.act ∧ UdOk x.q.what
 ex : NdSl w B x.ea x.e
 eca : x.e.length ≤ x.eca ∧ x.eca ≤ 9223372036854775807
 ek : NdOk x.e
 ei : NdI x.e
 el : x.e.length ≤ 200
 err : ErrCell w
 errB : 0 < B
theorem EvIn.keep {x : Evl} {B : Nat} {w w' : World} (h : EvIn x B w) (hb : RowKit.Below B w w') : EvIn x B w' :=
 ⟨h.sl.below hb, h.ens.below hb, h.uz, h.pz, h.az, h.ai, h.ec, h.ok, h.ctx.below hb, h.qc, h.qk, h.qi, h.qv, h.qz, h.ex.below hb, h.eca, h.ek, h.ei, h.el, h.err.below hb h.errB, h.errB⟩
theorem EvIn.ents {x : Evl} {B : Nat} {w : World} (h : EvIn x B w) (hB : B ≤ w.heap.size) : EntsIn w x.Ea x.hs x.es := ⟨h.sl.more hB, h.ens.more hB, h.uz, h.pz, h.az⟩
theorem ents_vals {es : List En} (h : entErr es = 0) : es.length ≤ 16 ∧ ∀ e ∈ es, udErr e.u = 0 ∧ valErr e.at_ = 0 ∧ opH e.at_ = 6 := by
 unfold entErr at h
 by_cases h16 : 16 < es.length
 · rw [if_pos h16] at h; omega
 · rw [if_neg h16] at h
   by_cases hf : fnz (entAt es) es.length = 0
   · have hz := fnz_all hf
     refine ⟨by omega, fun e he => ?_⟩
     obtain ⟨i, hi⟩ := List.mem_iff_getElem?.1 he
     obtain ⟨h1, _, h3⟩ := entAt_zero hi (hz i (List.getElem?_eq_some_iff.1 hi).1)
     refine ⟨h1, ?_⟩
     unfold entOne at h3
     split at h3
     · omega
     · split at h3
       · rename_i h4; exact absurd h3 h4
       · split at h3
         · rename_i h4; exact absurd h3 h4
         · rename_i h4
           split at h3
           · rename_i h5; exact ⟨Classical.not_not.1 h4, h5⟩
           · omega
   · rw [if_pos hf] at h; exact absurd h hf
def RecBack (w : World) (r : Ending) (w' : World) (q : Rs (Option (List Nd))) : Prop :=
 (∀ v, q = .ok (some v) → ∃ A c, r = .returned (.slice A v.length c) ∧ ValIn v A c w' ∧ NdI v) ∧ (q = .ok none → r = .returned (.slice none 0 0)) ∧ (∀ k, q = .bad k → r = .panicked (noV k)) ∧ RowKit.Below w.heap.size w w'
structure RecS (b0 bv ov : Nat) (h : Eh) (x : Nd) (w0 W : World) : Prop where
 s0 : W.cell? ⟨b0, 0, none⟩ = some (.string h.u.ty)
 s1 : W.cell? ⟨b0, 1, none⟩ = some (.string h.u.id)
 bel : RowKit.Below w0.heap.size w0 W
set_option maxHeartbeats 6400000 in
theorem eval_record (x : Evl) (xb i : Nat) (v : List Nd) (A : Option Addr) (c : Nat) (w : World) (hx : EvIn x xb w) (hB : Blk w xb 99 (x.cells i)) (hv : ValIn v A c w) (hvi : NdI v) :
   Calls Tryz.prog 116 #[.pointer (some ⟨xb, 0, none⟩), .slice A v.length c] w fun r w' => RecBack w r w' (recOf x.es v) := by
 have HX := Lib.hid hx
 have HV := Lib.hid hv
 have HVI := Lib.hid hvi
 have hxb := hB.lt
 have c0 : w.cell? ⟨xb, 0, none⟩ = some (.slice x.Ea x.hs.length x.ec) := hB.cell 0
 have HIS := Lib.hid (fun op => eval_is v op A c w hv)
 have hlen := hx.ens.len
 obtain ⟨h16, hvs⟩ := ents_vals hx.ok
 have HVS := Lib.hid hvs
 have hhl : x.hs.length ≤ 16 := by omega
 obtain ⟨q, hq⟩ : ∃ q, recOf x.es v = q := ⟨_, rfl⟩
 rw [hq]
 have HQ := Lib.hid hq
 have HLN := Lib.hid hlen
 clear hx hv hvi hB hq hlen h16 hvs
 by_cases h6 : opH v = 6
 · have t6 : (opH v == 6) = true := by simp [h6]
   have HR : Hid (q = .ok (some v)) := by show _ = _; rw [← HQ.out]; unfold recOf; rw [if_pos h6]
   have HI6 := Lib.hid (HIS.out 6)
   rw [t6] at HI6
   clear h6 t6
   go_enter Tryz.func116, Tryz.ntmps116
   go_wp2_with fail
   refine HI6.out.mono ?_
   rintro r w1 ⟨rfl, rfl⟩
   go_wp2_with fail
   go_ret
   rw [HR.out]
   exact ⟨fun u hu => by injection hu with hu; injection hu with hu; subst hu; exact ⟨A, c, rfl, HV.out, HVI.out⟩, fun h => (by (cases h)), fun k h => (by (cases h)), RowKit.Below.refl _ _⟩
 · have t6 : (opH v == 6) = false := by simp [h6]
   have HI6 := Lib.hid (HIS.out 6)
   rw [t6] at HI6
   by_cases h4 : opH v = 4
   · have t4 : (opH v == 4) = true := by simp [h4]
     have HI4 := Lib.hid (HIS.out 4)
     rw [t4] at HI4
     have HR : Hid (q = .ok ((x.es.find? fun e => decide (e.u = udH v)).map En.at_)) := by show _ = _; rw [← HQ.out]; unfold recOf; rw [if_neg h6, if_pos h4]
     clear h6 t6 h4 t4
     go_enter Tryz.func116, Tryz.ntmps116
     go_wp2_with fail
     refine HI6.out.mono ?_
     rintro r w1 ⟨rfl, rfl⟩
     go_wp2_with fail
     refine HI4.out.mono ?_
     rintro r w2 ⟨rfl, rfl⟩
     go_wp2_with fail
     go_loopw [21] (fun kk wr => ∃ k : Nat, kk = .int .i64 k ∧ k ≤ x.hs.length ∧ Hid (∀ e ∈ x.es.take k, ¬ e.u = udH v) ∧ RowKit.Below w2.heap.size w2 wr) (fun kk _ => x.hs.length - (intOf kk).toNat)
     case atStart => exact ⟨0, rfl, by omega, by simp [Hid], RowKit.Below.refl _ _⟩
     case round =>
       obtain ⟨k, rfl, hk, HK, hbr⟩ := hrel
       have hzr := hbr.size
       by_cases hlt : k < x.hs.length
       · obtain ⟨⟨hu0, ua, un, uc, aa, an, ac⟩, hx⟩ : ∃ y, x.hs[k]? = some y := ⟨_, List.getElem?_eq_getElem hlt⟩
         obtain ⟨e, he⟩ : ∃ e, x.es[k]? = some e := ⟨_, List.getElem?_eq_getElem (by have := HLN.out; omega)⟩
         have hXr := HX.out.keep (hbr.mono (Nat.le_of_lt hxb))
         have hok := (hXr.ens.at_ k _ e hx he)
         obtain ⟨b1, o1, hEa, hb1, d0, d1, d2, d3⟩ := ehSl_at hXr.sl hx
         simp only at d0 d1 d2 d3
         rw [hEa] at c0 ⊢
         have hue : hu0 = e.u := hok.u
         subst hue
         have HE := Lib.hid he
         have HOK := Lib.hid hok
         have HXR := Lib.hid hXr
         have hw1 : RowKit.Below wr.heap.size wr (wr.alloc (.cells #[.string e.u.ty, .string e.u.id, .slice ua un uc, .slice aa an ac] 109)) := by (repeat (first | assumption | exact Below.refl _ _ | apply Below.drew | apply below_drewN | (refine Below.alloc ?_ (by first | exact Nat.le_refl _ | omega | (simp; done) | (simp; omega)) _)))
         have HW1 := Lib.hid hw1
         have HVW := Lib.hid (HV.out.later hbr)
         have HUD := Lib.hid (fun W (hW : RowKit.Below wr.heap.size wr W) => eval_uid v A c W (HVW.out.later hW))
         have ev0 : (wr.alloc (.cells #[.string e.u.ty, .string e.u.id, .slice ua un uc, .slice aa an ac] 109)).cell? ⟨wr.heap.size, 0, none⟩ = some (.string e.u.ty) := by simp [World.cell?_alloc_new]
         have ev1 : (wr.alloc (.cells #[.string e.u.ty, .string e.u.id, .slice ua un uc, .slice aa an ac] 109)).cell? ⟨wr.heap.size, 1, none⟩ = some (.string e.u.id) := by simp [World.cell?_alloc_new]
         have ev2 : (wr.alloc (.cells #[.string e.u.ty, .string e.u.id, .slice ua un uc, .slice aa an ac] 109)).cell? ⟨wr.heap.size, 3, none⟩ = some (.slice aa an ac) := by simp [World.cell?_alloc_new]
         have heq : ∀ W, (binOp .eql 34 (.agg #[.string e.u.ty, .string e.u.id]) (.agg #[.string (udH v).ty, .string (udH v).id])).run Tryz.prog W = .ok (.bool (decide (e.u = udH v))) W := fun W => eql_ud e.u (udH v) W
         have heq2 : ∀ W, (Op.equalIn 10000 34 (.agg #[.string e.u.ty, .string e.u.id]) (.agg #[.string (udH v).ty, .string (udH v).id])).run Tryz.prog W = .ok (decide (e.u = udH v)) W := fun W => eq_ud e.u (udH v) W
         have hsz : (wr.alloc (.cells #[.string e.u.ty, .string e.u.id, .slice ua un uc, .slice aa an ac] 109)).heap.size = wr.heap.size + 1 := by simp
         have HSZ := Lib.hid hsz
         clear hx he hok hXr hsz
         cases hm : decide (e.u = udH v) with
         | true =>
           rw [hm] at heq heq2
           have HM := Lib.hid hm
           clear hm
           go_wp2_with fail
           refine wp_region_hd (S := RecS wr.heap.size 0 0 ⟨e.u, ua, un, uc, aa, an, ac⟩ ⟨0, 0, ⟨#[]⟩, ⟨#[]⟩⟩ wr) [false, false, false, true, false] (by kernel_rfl) (by kernel_rfl) (fun _ _ _ _ _ h => h) ⟨ev0, ev1, HW1.out.drew⟩ (fun hW' => ?_)
           simp only [List.zip_cons_cons, List.zip_nil_left]
           (repeat (first | (refine hd_take (v := ?_) (by rfl) ?_ ?_; rotate_left; (focus (intro W hW; obtain ⟨s0, s1, s2⟩ := hW; go_simp; try with_reducible rfl)); simp only [Act.put, List.setIfInBounds_toArray, List.set_cons_zero, List.set_cons_succ]) | (refine hd_skip (by rfl) ?_; simp only [Act.put, List.setIfInBounds_toArray, List.set_cons_zero, List.set_cons_succ])))
           refine hd_call (fun K hK => ?_)
           go_simp
           refine (HUD.out _ HW1.out.drew).mono ?_
           rintro r w4 ⟨rfl, hb4'⟩
           have hb4 := below_of_drew hb4'
           obtain ⟨hcc4, -⟩ := bcell hb4
           have hlt4 : wr.heap.size < (wr.alloc (.cells #[.string e.u.ty, .string e.u.id, .slice ua un uc, .slice aa an ac] 109)).heap.size := by rw [HSZ.out]; omega
           have hw4 : RowKit.Below wr.heap.size wr w4 := HW1.out.trans (hb4.mono HW1.out.size)
           refine hK _ _ ⟨(hcc4 _ _ hlt4).trans ev0, (hcc4 _ _ hlt4).trans ev1, hw4⟩ ?_
           have e3 := (hcc4 _ 3 hlt4).trans ev2
           clear hK K hcc4 hb4'
           (repeat (first | (refine hd_take (v := ?_) (by rfl) ?_ ?_; rotate_left; (focus (intro W hW; obtain ⟨s0, s1, s2⟩ := hW; go_simp; try with_reducible rfl)); simp only [Act.put, List.setIfInBounds_toArray, List.set_cons_zero, List.set_cons_succ]) | (refine hd_skip (by rfl) ?_; simp only [Act.put, List.setIfInBounds_toArray, List.set_cons_zero, List.set_cons_succ])))
           refine hd_nil ?_
           clear hb4 hlt4
           go_wp2_with fail
           go_ret
           have hfi : x.es.find? (fun e => decide (e.u = udH v)) = some e := by
             have h1 : x.es = x.es.take k ++ e :: x.es.drop (k + 1) := by
               have h2 := (List.getElem?_eq_some_iff.1 HE.out).1
               have h3 := (List.getElem?_eq_some_iff.1 HE.out).2
               rw [← h3, ← List.drop_eq_getElem_cons h2, List.take_append_drop]
             rw [h1, List.find?_append, List.find?_eq_none.2 (fun y hy => by simpa using HK.out y hy)]
             simp only [Option.none_or]
             have := HM.out
             simp only [decide_eq_true_eq] at this
             simp [this]
           have hw5 : RowKit.Below w2.heap.size w2 w4 := hbr.trans (hw4.mono hzr)
           rw [HR.out, hfi]
           have hem := List.mem_of_getElem? HE.out
           refine ⟨fun u hu => ?_, fun h => (by cases h), fun k h => (by cases h), hw5⟩
           have hu' : e.at_ = u := by simpa using hu
           subst hu'
           have hOK := HOK.out.below (HW1.out.mono (by omega))
           have han : an = e.at_.length := HOK.out.an
           subst han
           refine ⟨aa, ac, rfl, ⟨(HVS.out e hem).2.1, HX.out.az e hem, HOK.out.ac.1, HOK.out.ac.2, ?_⟩, HX.out.ai e hem⟩
           exact (HOK.out.at_.below (hw4.mono (by omega))).more (by have := hw4.size; omega)
         | false =>
           rw [hm] at heq heq2
           have HM := Lib.hid hm
           clear hm
           go_wp2_with fail
           refine wp_region_hd (S := RecS wr.heap.size 0 0 ⟨e.u, ua, un, uc, aa, an, ac⟩ ⟨0, 0, ⟨#[]⟩, ⟨#[]⟩⟩ wr) [false, false, false, true, false] (by kernel_rfl) (by kernel_rfl) (fun _ _ _ _ _ h => h) ⟨ev0, ev1, HW1.out.drew⟩ (fun hW' => ?_)
           simp only [List.zip_cons_cons, List.zip_nil_left]
           (repeat (first | (refine hd_take (v := ?_) (by rfl) ?_ ?_; rotate_left; (focus (intro W hW; obtain ⟨s0, s1, s2⟩ := hW; go_simp; try with_reducible rfl)); simp only [Act.put, List.setIfInBounds_toArray, List.set_cons_zero, List.set_cons_succ]) | (refine hd_skip (by rfl) ?_; simp only [Act.put, List.setIfInBounds_toArray, List.set_cons_zero, List.set_cons_succ])))
           refine hd_call (fun K hK => ?_)
           go_simp
           refine (HUD.out _ HW1.out.drew).mono ?_
           rintro r w4 ⟨rfl, hb4'⟩
           have hb4 := below_of_drew hb4'
           obtain ⟨hcc4, -⟩ := bcell hb4
           have hlt4 : wr.heap.size < (wr.alloc (.cells #[.string e.u.ty, .string e.u.id, .slice ua un uc, .slice aa an ac] 109)).heap.size := by rw [HSZ.out]; omega
           have hw4 : RowKit.Below wr.heap.size wr w4 := HW1.out.trans (hb4.mono HW1.out.size)
           refine hK _ _ ⟨(hcc4 _ _ hlt4).trans ev0, (hcc4 _ _ hlt4).trans ev1, hw4⟩ ?_
           clear hK K hcc4 hb4'
           (repeat (first | (refine hd_take (v := ?_) (by rfl) ?_ ?_; rotate_left; (focus (intro W hW; obtain ⟨s0, s1, s2⟩ := hW; go_simp; try with_reducible rfl)); simp only [Act.put, List.setIfInBounds_toArray, List.set_cons_zero, List.set_cons_succ]) | (refine hd_skip (by rfl) ?_; simp only [Act.put, List.setIfInBounds_toArray, List.set_cons_zero, List.set_cons_succ])))
           refine hd_nil ?_
           clear hb4 hlt4
           have HK2 : Hid (∀ e' ∈ x.es.take (k + 1), ¬ e'.u = udH v) := by
             intro e' he'
             rw [List.take_add_one, HE.out] at he'
             rcases List.mem_append.1 he' with h | h
             · exact HK.out e' h
             · simp at h; subst h; have := HM.out; simpa using this
           have hw5 : RowKit.Below w2.heap.size w2 w4 := hbr.trans (hw4.mono hzr)
           go_wp2_with fail
           exact ⟨⟨k + 1, by go_num, by omega, HK2, hw5⟩, by simp [intOf]; omega⟩
       · have HN : Hid (x.es.find? (fun e => decide (e.u = udH v)) = none) := by
           show _ = _
           rw [List.find?_eq_none]
           intro e he
           have := HK.out e (by rw [List.take_of_length_le (by have := HLN.out; omega)]; exact he)
           simpa using this
         go_wp2_with fail
         go_ret
         rw [HR.out, HN.out]
         exact ⟨fun u hu => by (cases hu), fun _ => rfl, fun k h => by (cases h), hbr⟩
   · have t4 : (opH v == 4) = false := by simp [h4]
     have HI4 := Lib.hid (HIS.out 4)
     rw [t4] at HI4
     have HR : Hid (q = .bad 2) := by show _ = _; rw [← HQ.out]; unfold recOf; rw [if_neg h6, if_neg h4]
     clear h6 t6 h4 t4
     go_enter Tryz.func116, Tryz.ntmps116
     go_wp2_with fail
     refine HI6.out.mono ?_
     rintro r w1 ⟨rfl, rfl⟩
     go_wp2_with fail
     refine HI4.out.mono ?_
     rintro r w2 ⟨rfl, rfl⟩
     go_wp2_with fail
     rw [HR.out]
     exact ⟨rfl, fun u hu => by (cases hu), fun h => by (cases h), fun k h => (by injection h with h; rw [← h]; rfl), RowKit.Below.refl _ _⟩
end Go.Proofs.YtpheiojmcafolaaGreatDoor
namespace Go.Proofs.YtpheiojmcafolaaGreatDoor
theorem likeL_star_nil (p : List (Option UInt8)) : likeL (none :: p) [] = likeL p [] := by rw [likeL]
theorem likeL_star_cons (p : List (Option UInt8)) (c : UInt8) (s : List UInt8) : likeL (none :: p) (c :: s) = (likeL p (c :: s) || likeL (none :: p) s) := by rw [likeL]
theorem likeL_lit_cons (b : UInt8) (p : List (Option UInt8)) (c : UInt8) (s : List UInt8) : likeL (some b :: p) (c :: s) = (b == c && likeL p s) := by rw [likeL]
theorem likeL_lit_nil (b : UInt8) (p : List (Option UInt8)) : likeL (some b :: p) [] = false := by rw [likeL]
theorem likeL_nil_cons (c : UInt8) (s : List UInt8) : likeL [] (c :: s) = false := by rw [likeL]
theorem likeL_nil_nil : likeL [] [] = true := by rw [likeL]
theorem star_iff (p : List (Option UInt8)) : ∀ s : List UInt8, likeL (none :: p) s = true ↔ ∃ f, f ≤ s.length ∧ likeL p (s.drop f) = true
 | [] => by
   rw [likeL_star_nil]
   constructor
   · intro h; exact ⟨0, by simp, by simpa using h⟩
   · rintro ⟨f, _, h⟩; simpa using h
 | c :: s => by
   rw [likeL_star_cons, Bool.or_eq_true, star_iff p s]
   constructor
   · rintro (h | ⟨f, h1, h2⟩)
     · exact ⟨0, by simp, by simpa using h⟩
     · exact ⟨f + 1, by simpa using h1, by simpa using h2⟩
   · rintro ⟨f, h1, h2⟩
     cases f with
     | zero => exact .inl (by simpa using h2)
     | succ f => exact .inr ⟨f, by simpa using h1, by simpa using h2⟩
def altL (p : List (Option UInt8)) (s : List UInt8) : Prop := ∃ f, 0 < f ∧ f ≤ s.length ∧ likeL p (s.drop f) = true
theorem star_alt (p : List (Option UInt8)) (s : List UInt8) : likeL (none :: p) s = true ↔ likeL p s = true ∨ altL p s := by
 rw [star_iff]
 constructor
 · rintro ⟨f, h1, h2⟩
   rcases Nat.eq_zero_or_pos f with h | h
   · subst h; exact .inl (by simpa using h2)
   · exact .inr ⟨f, h, h1, h2⟩
 · rintro (h | ⟨f, _, h1, h2⟩)
   · exact ⟨0, by simp, by simpa using h⟩
   · exact ⟨f, h1, h2⟩
theorem alt_next (p : List (Option UInt8)) (c : UInt8) (s : List UInt8) : altL p (c :: s) ↔ likeL p s = true ∨ altL p s := by
 constructor
 · rintro ⟨f, h0, h1, h2⟩
   obtain ⟨g, rfl⟩ : ∃ g, f = g + 1 := ⟨f - 1, by omega⟩
   rcases Nat.eq_zero_or_pos g with h | h
   · subst h; exact .inl (by simpa using h2)
   · exact .inr ⟨g, h, by simpa using h1, by simpa using h2⟩
 · rintro (h | ⟨f, h0, h1, h2⟩)
   · exact ⟨1, by omega, by simp, by simpa using h⟩
   · exact ⟨f + 1, by omega, by simpa using h1, by simpa using h2⟩
theorem lit_len : ∀ (Q R : List (Option UInt8)) (T : List UInt8), (∀ x ∈ Q, x ≠ none) → likeL (Q ++ R) T = true → Q.length ≤ T.length ∧ likeL R (T.drop Q.length) = true
 | [], R, T, _, h => ⟨by simp, by simpa using h⟩
 | none :: Q, R, T, hq, _ => absurd rfl (hq none (by simp))
 | some b :: Q, R, [], hq, h => by rw [List.cons_append, likeL_lit_nil] at h; cases h
 | some b :: Q, R, c :: T, hq, h => by
   rw [List.cons_append, likeL_lit_cons, Bool.and_eq_true] at h
   obtain ⟨h1, h2⟩ := lit_len Q R T (fun x hx => hq x (by simp [hx])) h.2
   exact ⟨by simpa using h1, by simpa using h2⟩
structure Seg (Pst Pi : List (Option UInt8)) (Sf Sj : List UInt8) : Prop where
 ex : ∃ Q pre, Pst = Q ++ Pi ∧ (∀ x ∈ Q, x ≠ none) ∧ Sf = pre ++ Sj ∧ pre.length = Q.length
theorem Seg.start (p : List (Option UInt8)) (s : List UInt8) : Seg p p s s := ⟨[], [], by simp, by simp, by simp, rfl⟩
theorem Seg.step {Pst Pi : List (Option UInt8)} {Sf Sj : List UInt8} {b c : UInt8} (h : Seg Pst (some b :: Pi) Sf (c :: Sj)) : Seg Pst Pi Sf Sj := by
 obtain ⟨Q, pre, rfl, h2, rfl, h4⟩ := h.ex
 refine ⟨Q ++ [some b], pre ++ [c], by simp, ?_, by simp, by simp [h4]⟩
 intro x hx
 rcases List.mem_append.1 hx with hx | hx
 · exact h2 x hx
 · simp at hx; subst hx; simp
theorem Seg.alt {Pst Pi : List (Option UInt8)} {Sf Sj : List UInt8} (h : Seg Pst Pi Sf Sj) (ha : altL Pst Sf) : ∃ f, 0 < f ∧ f ≤ Sj.length ∧ likeL Pi (Sj.drop f) = true := by
 obtain ⟨Q, pre, rfl, h2, rfl, h4⟩ := h.ex
 obtain ⟨f, h0, h1, h3⟩ := ha
 obtain ⟨g1, g2⟩ := lit_len Q Pi _ h2 h3
 rw [List.length_drop, List.length_append] at g1
 rw [List.length_append] at h1
 refine ⟨f, h0, by omega, ?_⟩
 rw [List.drop_drop, show f + Q.length = pre.length + f from by omega, ← List.drop_drop, List.drop_left' rfl] at g2
 exact g2
theorem like_new {Pst p : List (Option UInt8)} {Sf Sj : List UInt8} (h : Seg Pst (none :: p) Sf Sj) (ha : altL Pst Sf) : likeL p Sj = true ∨ altL p Sj := by
 obtain ⟨f, h0, h1, h2⟩ := h.alt ha
 rw [← star_alt, star_iff]
 obtain ⟨g, h3, h4⟩ := (star_iff p _).1 h2
 rw [List.length_drop] at h3
 exact ⟨f + g, by omega, by rw [← List.drop_drop]; exact h4⟩
theorem like_end {Pst Pi : List (Option UInt8)} {Sf : List UInt8} (h : Seg Pst Pi Sf []) : ¬ altL Pst Sf := by
 intro ha
 obtain ⟨f, h0, h1, _⟩ := h.alt ha
 simp at h1; omega
theorem likeL_stars : ∀ p : List (Option UInt8), likeL p [] = p.all fun x => x == none
 | [] => by rw [likeL_nil_nil]; rfl
 | none :: p => by rw [likeL_star_nil, likeL_stars p]; simp
 | some b :: p => by rw [likeL_lit_nil]; simp
end Go.Proofs.YtpheiojmcafolaaGreatDoor
namespace Go.Proofs.YtpheiojmcafolaaGreatDoor
def MInv (P : List (Option UInt8)) (S : List UInt8) (i j : Nat) (sv : Int) (f : Nat) : Prop :=
 (sv = -1 ∧ f ≤ j ∧ likeL P S = likeL (P.drop i) (S.drop j)) ∨
 (∃ st : Nat, sv = st ∧ st < P.length ∧ f ≤ j ∧ Seg (P.drop (st + 1)) (P.drop i) (S.drop f) (S.drop j) ∧ (likeL P S = true ↔ likeL (P.drop i) (S.drop j) = true ∨ altL (P.drop (st + 1)) (S.drop f)))
theorem minv_start (P : List (Option UInt8)) (S : List UInt8) : MInv P S 0 0 (-1) 0 := .inl ⟨rfl, Nat.le_refl _, rfl⟩
theorem drop_at {α : Type} {l : List α} {i : Nat} {x : α} (h : l[i]? = some x) : l.drop i = x :: l.drop (i + 1) := by
 obtain ⟨h1, h2⟩ := List.getElem?_eq_some_iff.1 h
 rw [List.drop_eq_getElem_cons h1, h2]
theorem minv_star {P : List (Option UInt8)} {S : List UInt8} {i j : Nat} {sv : Int} {f : Nat} (h : MInv P S i j sv f) (hp : P[i]? = some none) : MInv P S (i + 1) j (i : Int) j := by
 have hi := (List.getElem?_eq_some_iff.1 hp).1
 have hd := drop_at hp
 refine .inr ⟨i, rfl, hi, Nat.le_refl _, Seg.start _ _, ?_⟩
 rcases h with ⟨_, _, h⟩ | ⟨st, _, _, _, hs, h⟩
 · rw [h, hd, star_alt]
 · rw [h, hd, star_alt]
   constructor
   · rintro (h1 | h1)
     · exact h1
     · rw [hd] at hs
       exact like_new hs h1
   · exact .inl
theorem minv_lit {P : List (Option UInt8)} {S : List UInt8} {i j : Nat} {sv : Int} {f : Nat} {c : UInt8} (h : MInv P S i j sv f) (hp : P[i]? = some (some c)) (hs : S[j]? = some c) : MInv P S (i + 1) (j + 1) sv f := by
 have hd := drop_at hp
 have hj := drop_at hs
 have e : likeL (P.drop i) (S.drop j) = likeL (P.drop (i + 1)) (S.drop (j + 1)) := by rw [hd, hj, likeL_lit_cons]; simp
 rcases h with ⟨h1, h2, h3⟩ | ⟨st, h1, h2, h3, h4, h5⟩
 · exact .inl ⟨h1, by omega, by rw [h3, e]⟩
 · refine .inr ⟨st, h1, h2, by omega, ?_, by rw [h5, e]⟩
   rw [hd, hj] at h4
   exact h4.step
def Miss (P : List (Option UInt8)) (S : List UInt8) (i j : Nat) : Prop := (P[i]? = none ∨ ∃ b c, P[i]? = some (some b) ∧ S[j]? = some c ∧ b ≠ c) ∧ j < S.length
theorem miss_like {P : List (Option UInt8)} {S : List UInt8} {i j : Nat} (h : Miss P S i j) : likeL (P.drop i) (S.drop j) = false := by
 obtain ⟨h1, hj⟩ := h
 have hj' := drop_at (List.getElem?_eq_getElem hj)
 rcases h1 with h1 | ⟨b, c, h1, h2, h3⟩
 · rw [List.drop_eq_nil_of_le (List.getElem?_eq_none_iff.1 h1), hj', likeL_nil_cons]
 · rw [drop_at h1, drop_at h2, likeL_lit_cons]; simp [h3]
theorem minv_back {P : List (Option UInt8)} {S : List UInt8} {i j : Nat} {st : Nat} {f : Nat} (h : MInv P S i j (st : Int) f) (hm : Miss P S i j) : f < S.length ∧ st < P.length ∧ MInv P S (st + 1) (f + 1) (st : Int) (f + 1) := by
 have hk := miss_like hm
 have hj := hm.2
 rcases h with ⟨h1, _⟩ | ⟨st', h1, h2, h3, h4, h5⟩
 · omega
 · obtain rfl : st = st' := by omega
   have hf : f < S.length := by omega
   refine ⟨hf, h2, .inr ⟨st, rfl, h2, Nat.le_refl _, Seg.start _ _, ?_⟩⟩
   rw [h5, hk, drop_at (List.getElem?_eq_getElem hf), alt_next]
   simp
theorem minv_no {P : List (Option UInt8)} {S : List UInt8} {i j : Nat} {sv : Int} {f : Nat} (h : MInv P S i j sv f) (hm : Miss P S i j) (hs : ¬ 0 ≤ sv) : likeL P S = false := by
 have hk := miss_like hm
 rcases h with ⟨_, _, h3⟩ | ⟨st, h1, _⟩
 · rw [h3, hk]
 · omega
theorem minv_end {P : List (Option UInt8)} {S : List UInt8} {i j : Nat} {sv : Int} {f : Nat} (h : MInv P S i j sv f) (hj : S.length ≤ j) : likeL P S = (P.drop i).all fun x => x == none := by
 have hd : S.drop j = [] := List.drop_eq_nil_of_le hj
 rw [← likeL_stars]
 rcases h with ⟨_, _, h3⟩ | ⟨st, h1, h2, h3, h4, h5⟩
 · rw [h3, hd]
 · rw [hd] at h4 h5
   have := like_end h4
   rw [Bool.eq_iff_iff, h5]
   simp [this]
theorem sgns_other {c : UInt8} {r : List UInt8} (h1 : c ≠ 42) (h2 : c = 92 → r.head? ≠ some 42) : sgnsL (c :: r) = some c :: sgnsL r := by
 rw [sgnsL]
 · exact h1
 · intro r' e1 e2
   exact h2 e1 (by rw [e2]; rfl)
theorem sgns_star (r : List UInt8) : sgnsL (42 :: r) = none :: sgnsL r := by rw [sgnsL]
theorem sgns_esc (r : List UInt8) : sgnsL (92 :: 42 :: r) = some 42 :: sgnsL r := by rw [sgnsL]
theorem sgns_len : ∀ (n : Nat) (l : List UInt8), l.length ≤ n → (sgnsL l).length ≤ l.length
 | 0, [], _ => Nat.le_refl _
 | n + 1, [], _ => Nat.le_refl _
 | n + 1, c :: r, h => by
   simp only [List.length_cons] at h
   by_cases h1 : c = 42
   · subst h1
     rw [sgns_star, List.length_cons, List.length_cons]
     have := sgns_len n r (by omega)
     omega
   · by_cases h2 : c = 92 ∧ r.head? = some 42
     · obtain ⟨rfl, h2⟩ := h2
       cases r with
       | nil => cases h2
       | cons d r =>
         injection h2 with h2; subst h2
         rw [sgns_esc, List.length_cons, List.length_cons, List.length_cons]
         simp only [List.length_cons] at h
         have := sgns_len n r (by omega)
         omega
     · rw [sgns_other h1 (fun e hh => h2 ⟨e, hh⟩), List.length_cons, List.length_cons]
       have := sgns_len n r (by omega)
       omega
end Go.Proofs.YtpheiojmcafolaaGreatDoor
