/-
  The library's contracts at this program (written by the kit's programs).
  LISTS OF NODES IN MEMORY: in none of some blocks; lists of such lists.
  LISTS OF NODES IN MEMORY, off the row into which their slices are collected.
  THE WALKS: truth.Ones, truth.Alike.
  PLAIN LAWS: the strings of an expression are short.
  THE WALKS of the fact that the laws of tables begin with.
  THE WALKS: tree.Put.
  THE WALK of the law TruthSplits; the fact that its laws begin with.
  UIDS AS A MAP's KEYS.
  ENTITIES IN MEMORY: their headers, and what these lead to.
  THE WALKS: comparing two uids; slices.Index and Contains of uids.
  THE WALKS: slices.Equal of nodes; comparing nodes.
  PLAIN WORDS: the words of a line, on lists of bytes. No program in sight. PLAIN LAWS: reading a line, word by word; line behind line. PLAIN WORDS: what a text is between quotes. PLAIN WORDS: the spelling of words.
-/
import Derived.Test.YtpheiojmcafolaaGreatDoorT01
import Derived.Shelf.Strings.Builder1
import Derived.Shelf.Strings.Builder2
import Derived.Shelf.Small.Bits
import Derived.Shelf.Small.Strs
import Derived.Shelf.Small.Wraps
import Derived.Shelf.Strings.BuilderF
import Derived.Shelf.Strings.BuilderK
import Derived.Shelf.Utf8.RuneCount
import Derived.Shelf.Strings.Builder2Cap
import Derived.Shelf.Strconv.Itoa0
import Derived.Shelf.Strings.Search1
import Derived.Shelf.Strings.Search2
import Derived.Shelf.Strings.Search3
import Derived.Shelf.Strings.Count
import Derived.Shelf.LaysM
import Derived.Shelf.Strings.Shaped
import Derived.Shelf.Sort.Plain
import Derived.Shelf.Strings.Prefix
import Derived.Shelf.Strings.Split
import Derived.Shelf.Strings.RuneCount
import Derived.Shelf.Bits.Mul64
import Derived.Shelf.Slices.Turned
import Derived.Ground.Names2Prog
import Derived.Shelf.Slices.SearchI
import Derived.Shelf.Slices.In.SortNone
import Derived.Shelf.Spec.SlicesGrow
import Derived.Shelf.SlSortCmp.Whole1
import Derived.Ground.SlsfProg
import Derived.Test.YtpheiojmcafolaaGreatDoorProg
import Derived.Lib.SliceRun
import Derived.Laws.OwnMore
import Derived.Maps.AppendAt
import Derived.Test.YtpheiojmcafolaaGreatDoorT06
import Derived.Lib.Hide
import Derived.BigQuiet
import Derived.Test.YtpheiojmcafolaaGreatDoorT05
import Derived.Deep.RegionHeld3
import Derived.Test.YtpheiojmcafolaaGreatDoorT02
import Derived.DeepKeys5
import Derived.Maps.OwnSet
import Derived.Maps.Views
import Derived.Maps.OwnOps
import Derived.Laws.StructEq
import Derived.Lib.Bytealg
import Derived.Lib.Join
namespace Go.Proofs
open Go.Shelf
def Tryz.sortL_ren : Go.Shelf.Ren := ⟨fun | 6 => 132 | 15 => 162 | 14 => 161 | 28 => 192 | 29 => 193 | 20 => 184 | 21 => 185 | 22 => 186 | 23 => 187 | 24 => 188 | 25 => 189 | 26 => 190 | 27 => 191 | 46 => 208 | 47 => 209 | 48 => 210 | 49 => 211 | 50 => 212 | 57 => 221 | n => n, fun | 22 => 152 | 24 => 22 | 25 => 190 | 3 => 3 | 39 => 243 | 0 => 0 | 53 => 225 | 55 => 219 | 4 => 4 | 46 => 276 | 45 => 275 | 50 => 168 | 5 => 5 | 9 => 9 | 66 => 312 | 70 => 316 | 76 => 334 | 77 => 335 | n => n, fun | n => n⟩
theorem Tryz.sortL : Go.Proofs.SlLaysF.n6 Tryz.prog Tryz.sortL_ren := {
  mixed := by kernel_rfl
  f6 := ⟨Tryz.f132.name, by decide, Tryz.func132.trans (congrArg some (by kernel_rfl))⟩
  f14 := ⟨Tryz.f161.name, by decide, Tryz.func161.trans (congrArg some (by kernel_rfl))⟩
  f15 := Tryz.func162.trans (congrArg some (by kernel_rfl))
  f20 := ⟨Tryz.f184.name, by decide, Tryz.func184.trans (congrArg some (by kernel_rfl))⟩
  f21 := ⟨Tryz.f185.name, by decide, Tryz.func185.trans (congrArg some (by kernel_rfl))⟩
  f22 := ⟨Tryz.f186.name, by decide, Tryz.func186.trans (congrArg some (by kernel_rfl))⟩
  f23 := ⟨Tryz.f187.name, by decide, Tryz.func187.trans (congrArg some (by kernel_rfl))⟩
  f24 := ⟨Tryz.f188.name, by decide, Tryz.func188.trans (congrArg some (by kernel_rfl))⟩
  f25 := ⟨Tryz.f189.name, by decide, Tryz.func189.trans (congrArg some (by kernel_rfl))⟩
  f26 := ⟨Tryz.f190.name, by decide, Tryz.func190.trans (congrArg some (by kernel_rfl))⟩
  f27 := ⟨Tryz.f191.name, by decide, Tryz.func191.trans (congrArg some (by kernel_rfl))⟩
  f28 := Tryz.func192.trans (congrArg some (by kernel_rfl))
  f29 := Tryz.func193.trans (congrArg some (by kernel_rfl))
  f46 := ⟨Tryz.f208.name, by decide, Tryz.func208.trans (congrArg some (by kernel_rfl))⟩
  f47 := Tryz.func209.trans (congrArg some (by kernel_rfl))
  f48 := Tryz.func210.trans (congrArg some (by kernel_rfl))
  f49 := ⟨Tryz.f211.name, by decide, Tryz.func211.trans (congrArg some (by kernel_rfl))⟩
  f50 := ⟨Tryz.f212.name, by decide, Tryz.func212.trans (congrArg some (by kernel_rfl))⟩
  f57 := ⟨Tryz.f221.name, by decide, Tryz.func221.trans (congrArg some (by kernel_rfl))⟩
  t0 := Tryz.underlying0
  a0 := Tryz.isAgg0
  z0 := Tryz.sizeOf0
  v0 := Tryz.zeroValue0
  t3 := Tryz.underlying3
  a3 := Tryz.isAgg3
  z3 := Tryz.sizeOf3
  v3 := Tryz.zeroValue3
  t4 := Tryz.underlying4
  a4 := Tryz.isAgg4
  z4 := Tryz.sizeOf4
  v4 := Tryz.zeroValue4
  t5 := Tryz.underlying5
  a5 := Tryz.isAgg5
  z5 := Tryz.sizeOf5
  v5 := Tryz.zeroValue5
  t9 := Tryz.underlying9
  a9 := Tryz.isAgg9
  z9 := Tryz.sizeOf9
  v9 := Tryz.zeroValue9
  t22 := Tryz.underlying152
  a22 := Tryz.isAgg152
  z22 := Tryz.sizeOf152
  v22 := Tryz.zeroValue152
  a24 := Tryz.isAgg22
  z24 := Tryz.sizeOf22
  t25 := Tryz.underlying190
  a25 := Tryz.isAgg190
  z25 := Tryz.sizeOf190
  v25 := Tryz.zeroValue190
  t39 := Tryz.underlying243
  a39 := Tryz.isAgg243
  z39 := Tryz.sizeOf243
  v39 := Tryz.zeroValue243
  t45 := Tryz.underlying275
  a45 := Tryz.isAgg275
  z45 := Tryz.sizeOf275
  v45 := Tryz.zeroValue275
  t46 := Tryz.underlying276
  a46 := Tryz.isAgg276
  z46 := Tryz.sizeOf276
  v46 := Tryz.zeroValue276
  t50 := Tryz.underlying168
  a50 := Tryz.isAgg168
  z50 := Tryz.sizeOf168
  v50 := Tryz.zeroValue168
  t53 := Tryz.underlying225
  a53 := Tryz.isAgg225
  z53 := Tryz.sizeOf225
  v53 := Tryz.zeroValue225
  t55 := Tryz.underlying219
  a55 := Tryz.isAgg219
  z55 := Tryz.sizeOf219
  v55 := Tryz.zeroValue219
  t66 := Tryz.underlying312
  a66 := Tryz.isAgg312
  z66 := Tryz.sizeOf312
  v66 := Tryz.zeroValue312
  t70 := Tryz.underlying316
  a70 := Tryz.isAgg316
  z70 := Tryz.sizeOf316
  v70 := Tryz.zeroValue316
  t76 := Tryz.underlying334
  a76 := Tryz.isAgg334
  z76 := Tryz.sizeOf334
  v76 := Tryz.zeroValue334
  t77 := Tryz.underlying335
  a77 := Tryz.isAgg335
  z77 := Tryz.sizeOf335
  v77 := Tryz.zeroValue335 }
end Go.Proofs
namespace Go.Proofs.YtpheiojmcafolaaGreatDoor
open Go.RowKit Go.Sort
/-- A slice of nodes below block B, in none of some blocks. -/
def NdOff (g : Nat → Prop) (w : World) (B : Nat) (A : Option Addr) (xs : List Nd) : Prop :=
  xs ≠ [] → ∃ b o, A = some ⟨b, o, none⟩ ∧ b < B ∧ ¬ g b ∧ ∀ i x, xs[i]? = some x → NdAt w b (o + i * 4) x
theorem NdOff.sl {g : Nat → Prop} {w : World} {B : Nat} {A : Option Addr} {xs : List Nd} (h : NdOff g w B A xs) : NdSl w B A xs := fun hne => by
  obtain ⟨b, o, e, h1, _, h3⟩ := h hne
  exact ⟨b, o, e, h1, h3⟩
theorem NdSl.off {g : Nat → Prop} {w : World} {B B' : Nat} {A : Option Addr} {xs : List Nd} (h : NdSl w B A xs) (hB : ∀ b, g b → B ≤ b) (hB' : B ≤ B') : NdOff g w B' A xs := fun hne => by
  obtain ⟨b, o, e, h1, h3⟩ := h hne
  exact ⟨b, o, e, by omega, fun hg => by have := hB b hg; omega, h3⟩
theorem NdOff.keep {g : Nat → Prop} {w w' : World} {B B' : Nat} {A : Option Addr} {xs : List Nd} (h : NdOff g w B A xs) (hk : ∀ p : Addr, p.block < B → ¬ g p.block → w'.cell? p = w.cell? p) (hB : B ≤ B') : NdOff g w' B' A xs := fun hne => by
  obtain ⟨b, o, e, h1, h2, h3⟩ := h hne
  exact ⟨b, o, e, by omega, h2, fun i x hx => by
    obtain ⟨q0, q1, q2, q3⟩ := h3 i x hx
    exact ⟨(hk _ h1 h2).trans q0, (hk _ h1 h2).trans q1, (hk _ h1 h2).trans q2, (hk _ h1 h2).trans q3⟩⟩
theorem nd_info : (Tryz.prog.info? 37).map (fun i => (i.zero, i.size, i.bytes)) = some (some (.agg #[.int .i64 0, .int .i64 0, .string ⟨#[]⟩, .string ⟨#[]⟩]), 4, 48) := by kernel_rfl
/-- A list of nodes, as it stands in memory. -/
structure NsM where
  A : Option Addr
  c : Nat
  e : List Nd
def NsM.cells (x : NsM) : List Value := [.slice x.A x.e.length x.c]
theorem ns_ok : EncOk NsM.cells 1 := ⟨fun _ => rfl, by omega, fun x u hu => by
  simp only [NsM.cells, List.mem_cons, List.not_mem_nil, or_false] at hu
  subst hu; rfl⟩
abbrev NsSl := SlG NsM.cells 1
structure NsGood (w : World) (B : Nat) (x : NsM) : Prop where
  sl : NdSl w B x.A x.e
  le : x.e.length ≤ x.c
  max : x.c ≤ 9223372036854775807
theorem NsGood.later {w w' : World} {x : NsM} (h : NsGood w w.heap.size x) (hb : Below w.heap.size w w') : NsGood w' w'.heap.size x := ⟨(h.sl.below hb).more hb.size, h.le, h.max⟩
/-- Lists of nodes in memory. -/
structure NssAt (w : World) (A : Option Addr) (ps : List NsM) : Prop where
  sl : NsSl w w.heap.size A ps
  good : ∀ x ∈ ps, NsGood w w.heap.size x
theorem NssAt.later {w w' : World} {A : Option Addr} {ps : List NsM} (h : NssAt w A ps) (hb : Below w.heap.size w w') : NssAt w' A ps :=
  ⟨h.sl.later hb, fun x hx => (h.good x hx).later hb⟩
theorem nsSl_at {w : World} {B : Nat} {A : Option Addr} {xs : List NsM} (h : NsSl w B A xs) {i : Nat} {x : NsM} (hx : xs[i]? = some x) : ∃ b o, A = some ⟨b, o, none⟩ ∧ b < B ∧ w.cell? ⟨b, o + i, none⟩ = some (.slice x.A x.e.length x.c) := by
  obtain ⟨b, o, h1, h2, h3⟩ := h.at_ (List.getElem?_eq_some_iff.1 hx).1
  have := h3 i x hx 0 _ rfl
  rw [Nat.mul_one, Nat.add_zero] at this
  exact ⟨b, o, h1, h2, this⟩
/-- All of some lists. -/
def catN (ps : List NsM) : List Nd := ps.flatMap NsM.e
theorem catN_step {ps : List NsM} {k : Nat} {p : NsM} (h : ps[k]? = some p) : catN (ps.take (k + 1)) = catN (ps.take k) ++ p.e := by
  unfold catN
  rw [List.take_add_one, h, List.flatMap_append]; simp
theorem catN_le {ps : List NsM} (k : Nat) : (catN (ps.take k)).length ≤ (catN ps).length := by
  conv => rhs; rw [← List.take_append_drop k ps]
  unfold catN
  rw [List.flatMap_append, List.length_append]; omega
end Go.Proofs.YtpheiojmcafolaaGreatDoor
namespace Go.Proofs.YtpheiojmcafolaaGreatDoor
open Go.RowKit Go.Sort
/-- A list of nodes in none of a row's blocks. -/
structure NsOff (w : World) (q : Option Nat) (x : NsM) : Prop where
  off : NdOff (fun b => q = some b) w w.heap.size x.A x.e
  le : x.e.length ≤ x.c
  max : x.c ≤ 9223372036854775807
theorem NsOff.good {w : World} {q : Option Nat} {x : NsM} (h : NsOff w q x) : NsGood w w.heap.size x := ⟨h.off.sl, h.le, h.max⟩
theorem NsOff.grown {w w' : World} {q q' : Option Nat} {x : NsM} (h : NsOff w q x) (hg : w.grownBy w' q) (hq : q' = q ∨ q' = some w.heap.size) : NsOff w' q' x :=
  ⟨fun hne => by
    obtain ⟨b, o, e, h1, h2, h3⟩ := h.off hne
    have h2' : ¬ q = some b := h2
    have hk : ∀ i, w'.cell? ⟨b, i, none⟩ = w.cell? ⟨b, i, none⟩ := fun i => World.cell?_of_block (w := w) (a := ⟨b, i, none⟩) (hg.block b h1 (fun e => h2' e.symm))
    refine ⟨b, o, e, Nat.lt_of_lt_of_le h1 hg.size, ?_, fun i y hy => ?_⟩
    · show ¬ q' = some b
      rcases hq with rfl | rfl
      · exact h2'
      · intro hh; injection hh with hh; omega
    · obtain ⟨q0, q1, q2, q3⟩ := h3 i y hy
      exact ⟨(hk _).trans q0, (hk _).trans q1, (hk _).trans q2, (hk _).trans q3⟩, h.le, h.max⟩
theorem NsOff.later {w w' : World} {q : Option Nat} {x : NsM} (h : NsOff w q x) (hb : RowKit.Below w.heap.size w w') : NsOff w' q x :=
  ⟨h.off.keep (fun _ hp _ => hb.cell hp) hb.size, h.le, h.max⟩
theorem NsGood.away {w : World} {B : Nat} {q : Option Nat} {x : NsM} (h : NsGood w B x) (hB : B ≤ w.heap.size) (hq : ∀ b, q = some b → B ≤ b) : NsOff w q x :=
  ⟨h.sl.off hq hB, h.le, h.max⟩
theorem NsGood.fresh {w : World} {B : Nat} {q : Option Nat} {x : NsM} (h : NsGood w w.heap.size x) (hn : ∀ b o, x.A = some ⟨b, o, none⟩ → B ≤ b) (hq : ∀ b, q = some b → b < B) : NsOff w q x :=
  ⟨fun hne => by
    obtain ⟨b, o, e, h1, h3⟩ := h.sl hne
    exact ⟨b, o, e, h1, fun hh => by have := hq b hh; have := hn b o e; omega, h3⟩, h.le, h.max⟩
theorem own_form_new {w : World} {base : Nat} {e : TypeId} {v : Value} {n : Nat} {xs : List Nd} (h : w.ownsRow base e 4 v n (flat xs)) :
    ∃ A c, v = .slice A n c ∧ n ≤ c ∧ c ≤ 9223372036854775807 ∧ NdSl w w.heap.size A xs ∧ ∀ b o, A = some ⟨b, o, none⟩ → base ≤ b := by
  obtain ⟨A, c, hv, hc, hm, hs⟩ := own_form (xs := xs) (ys := []) (by rw [show flat ([] : List Nd) = [] from rfl, List.append_nil]; exact h)
  rw [List.append_nil] at hs
  refine ⟨A, c, hv, hc, hm, hs, fun b o hA => ?_⟩
  subst hA
  rcases h.2 with ⟨h1, _⟩ | ⟨g, cap, cur, h1, hb, _⟩
  · rw [hv] at h1; cases h1
  · rw [hv] at h1; injection h1 with h1; injection h1 with h1; injection h1 with h1; omega
/-- A list of nodes that a call hands back, in memory that it has made. -/
def NdsNew (w : World) (r : Ending) (w' : World) (xs : List Nd) : Prop :=
  ∃ A c, r = .returned (.slice A xs.length c) ∧ xs.length ≤ c ∧ c ≤ 9223372036854775807 ∧ NdSl w' w'.heap.size A xs ∧ RowKit.Below w.heap.size w w' ∧ ∀ b o, A = some ⟨b, o, none⟩ → w.heap.size ≤ b
theorem ns_info : (Tryz.prog.info? 22).map (fun i => (i.zero, i.size, i.bytes)) = some (some (.slice none 0 0), 1, 24) := by kernel_rfl
/-- The row's own block was there. -/
theorem own_lt {w : World} {base : Nat} {e : TypeId} {k : Nat} {v : Value} {n : Nat} {xs : List Value} (h : w.ownsRow base e k v n xs) {b : Nat} (hb : v.ownBlock = some b) : base ≤ b ∧ b < w.heap.size := by
  rcases h.2 with ⟨h1, _⟩ | ⟨g, cap, cur, h1, hbg, hg, _⟩
  · rw [h1] at hb; cases hb
  · rw [h1] at hb
    injection hb with hb
    have h2 : g = b := hb
    subst h2
    exact ⟨hbg, (Array.getElem?_eq_some_iff.1 hg).1⟩
theorem ns_snoc (ps : List NsM) (x : NsM) : flatG NsM.cells (ps ++ [x]) = flatG NsM.cells ps ++ [.slice x.A x.e.length x.c] := by rw [flatG_append, flatG_one]; rfl
end Go.Proofs.YtpheiojmcafolaaGreatDoor
namespace Go.Proofs.YtpheiojmcafolaaGreatDoor
open Go.RowKit Go.Sort Go.Shelf
theorem boSl_at {w : World} {B : Nat} {A : Option Addr} {xs : List Bool} (h : BoSl w B A xs) {i : Nat} {x : Bool} (hx : xs[i]? = some x) : ∃ b o, A = some ⟨b, o, none⟩ ∧ b < B ∧ w.cell? ⟨b, o + i, none⟩ = some (.bool x) := by
  obtain ⟨b, o, h1, h2, h3⟩ := h.at_ (List.getElem?_eq_some_iff.1 hx).1
  have := h3 i x hx 0 _ rfl
  rw [Nat.mul_one, Nat.add_zero] at this
  exact ⟨b, o, h1, h2, this⟩
theorem tableP_le (e : List Nd) (ss : List (List UInt8)) : (tableP e ss).1.length ≤ 64 := by
  unfold tableP
  split
  · simp
  · rename_i h
    have h1 := (atoms_ok.1 (frm_ok.1 (by simpa using h)).2).1
    show (tabB (evL e) ss).length ≤ 64
    rw [tabB_len]
    exact Nat.pow_le_pow_right (by omega) h1
theorem ones_step {t : List Bool} {k : Nat} {b : Bool} (h : t[k]? = some b) : onesL (t.take (k + 1)) = onesL (t.take k) + if b = true then 1 else 0 := by
  unfold onesL
  rw [List.take_add_one, h, List.count_append]
  cases b <;> rfl
set_option maxRecDepth 100000 in
set_option maxHeartbeats 3200000 in
theorem truth_Ones (e : List Nd) (A : Option Addr) (c : Nat) (ss : List (List UInt8)) (An : Option Addr) (cn : Nat) (w : World) (hc : e.length ≤ c) (hcm : c ≤ 9223372036854775807) (hok : NdOk e) (hsl : NdSl w w.heap.size A e) (hss : StrSl w w.heap.size An ss) (hn : ss.length ≤ cn) (hcn : cn ≤ 9223372036854775807) :
    Calls Tryz.prog 42 #[.slice A e.length c, .slice An ss.length cn] w fun r w' => r = .returned (.tuple #[.int .i64 (onesP e ss : Nat), errV (frmErr e ss)]) ∧ RowKit.Below w.heap.size w w' := by
  have HT := Lib.hid (truth_Table e A c ss An cn w hc hcm hok hsl hss hn hcn)
  have hle := tableP_le e ss
  have HO : Hid (onesP e ss = onesL (tableP e ss).1) := rfl
  rw [HO.out]
  clear hc hok hsl hss HO
  generalize (tableP e ss).1 = t at HT hle ⊢
  generalize frmErr e ss = k at HT ⊢
  go_enter Tryz.func42, Tryz.ntmps42
  go_wp2_with fail
  refine HT.out.mono ?_
  rintro r w1 ⟨A1, c1, rfl, h1, h2, h3, hb1⟩
  have HS := Lib.hid h3
  clear h3 h1
  go_wp2_with fail
  go_loop [19, 8] (fun kk nn => ∃ (j : Nat) (m : Nat), kk = .int .i64 j ∧ nn = .int .i64 m ∧ j ≤ t.length ∧ m ≤ j ∧ Hid (m = onesL (t.take j))) (fun kk _ => t.length - (intOf kk).toNat)
  case atStart => exact ⟨0, 0, rfl, rfl, by omega, by omega, rfl⟩
  case round =>
    obtain ⟨j, m, rfl, rfl, hj, hm, HM⟩ := hrel
    by_cases hlt : j < t.length
    · obtain ⟨x, hx⟩ : ∃ x, t[j]? = some x := ⟨_, List.getElem?_eq_getElem hlt⟩
      obtain ⟨b, o, rfl, hb, d0⟩ := boSl_at HS.out hx
      have HST := Lib.hid (ones_step hx)
      clear hx
      cases x
      · have HM2 : Hid (m = onesL (t.take (j + 1))) := by show _ = _; rw [HST.out, HM.out]; rfl
        go_wp2_with fail
        exact ⟨⟨j + 1, m, by go_num, rfl, by omega, by omega, HM2⟩, by simp [intOf]; omega⟩
      · have HM2 : Hid (m + 1 = onesL (t.take (j + 1))) := by show _ = _; rw [HST.out, HM.out]; rfl
        go_wp2_with fail
        exact ⟨⟨j + 1, m + 1, by go_num, by go_num, by omega, by omega, HM2⟩, by simp [intOf]; omega⟩
    · have HE : Hid (m = onesL t) := by
        have := HM.out
        rw [List.take_of_length_le (by omega)] at this
        exact this
      go_wp2_with fail
      go_ret2
      rw [← HE.out]
      exact ⟨rfl, hb1⟩
end Go.Proofs.YtpheiojmcafolaaGreatDoor
namespace Go.Proofs.YtpheiojmcafolaaGreatDoor
open Go.RowKit
theorem one_valM {x : Nd} (h : x.op = 1 ∨ x.op = 2 ∨ x.op = 3 ∨ x.op = 4) : (valErr [x] == 0) = shapedV x := by
  have h5 : ¬ x.op = 5 := by omega
  have h6 : ¬ x.op = 6 := by omega
  have h7 : ¬ x.op = 7 := by omega
  cases hs : shapedV x <;> simp [valErr, vGo, hs, h5, h6, h7]
theorem shaped_low {x : Nd} (h : x.op = 1 ∨ x.op = 2 ∨ x.op = 3 ∨ x.op = 4) : shapedT x = shapedV x := by
  unfold shapedT; rw [if_pos h, one_valM h]
theorem name_le {l : List UInt8} (h : nameErr l = 0) : l.length ≤ 20 := by
  cases l with
  | nil => simp
  | cons a r =>
    have e : nameErr (a :: r) = if letterI (a.toNat : Int) = false then 1 else if (a :: r).all nameB = false then 1 else if 20 < (a :: r).length then 4 else 0 := rfl
    rw [e] at h
    split at h
    · cases h
    · split at h
      · cases h
      · split at h
        · cases h
        · omega
theorem text_le {l : List UInt8} (h : textErr l = 0) : l.length ≤ 60 := by
  unfold textErr at h
  split at h
  · cases h
  · omega
theorem var_le {l : List UInt8} (h : variableB l = true) : l.length ≤ 21 := by
  cases l with
  | nil => simp
  | cons a r =>
    have e : variableB (a :: r) = if a = 63 then nameErr r == 0 else nameErr (a :: r) == 0 && !reserved (a :: r) := rfl
    rw [e] at h
    split at h
    · have := name_le (by simpa using h); simp; omega
    · simp only [Bool.and_eq_true, beq_iff_eq] at h
      have := name_le h.1; omega
theorem shaped_le {x : Nd} (h : shapedT x = true) : x.s.size ≤ 60 ∧ x.t.size ≤ 60 := by
  rw [← toList_len x.s, ← toList_len x.t]
  by_cases h4 : x.op = 1 ∨ x.op = 2 ∨ x.op = 3 ∨ x.op = 4
  · rw [shaped_low h4] at h
    unfold shapedV at h
    rcases h4 with e | e | e | e <;> rw [e] at h <;> simp [-List.length_eq_zero_iff] at h
    · rw [h.1.2, h.2]; simp
    · rw [h.1, h.2]; simp
    · rw [h.1.2]; exact ⟨text_le h.2, by simp⟩
    · exact ⟨Nat.le_trans (name_le h.1.2) (by omega), text_le h.2⟩
  unfold shapedT at h
  rw [if_neg h4] at h
  split at h
  · simp at h; rw [h.1.2, h.2]; simp
  split at h
  · simp at h; rw [h.1.2]; exact ⟨Nat.le_trans (var_le h.2) (by omega), by simp⟩
  split at h
  · simp at h; rw [h.1.2]; exact ⟨Nat.le_trans (name_le h.2) (by omega), by simp⟩
  split at h
  · simp at h; rw [h.1.2]; exact ⟨text_le h.2, by simp⟩
  · simp at h; rw [h.1.2, h.2]; simp
theorem ex_shaped {t : BTag} {xs : List Nd} (h : Ex t xs) : ∀ n ∈ xs, shapedT n = true := by
  induction h with
  | one n body fld hs _ _ ih =>
    intro m hm
    rcases List.mem_cons.1 hm with rfl | hm
    · exact hs
    · exact ih m hm
  | nil => simp
  | cons c r l m xs ys _ _ _ ih1 ih2 =>
    intro n hn
    rcases List.mem_append.1 hn with hn | hn
    · exact ih1 n hn
    · exact ih2 n hn
/-- The strings of an expression are short. -/
theorem tree_ok {e : List Nd} (h : treeErr e = 0) : NdOk e := fun x hx => by
  obtain ⟨h1, h2⟩ := shaped_le (ex_shaped ((tree_iff _).1 h).2 x hx)
  exact ⟨by omega, by omega⟩
end Go.Proofs.YtpheiojmcafolaaGreatDoor
namespace Go.Proofs.YtpheiojmcafolaaGreatDoor
open Go.RowKit Go.Sort
theorem law_name (s : ByteArray) (w : World) : Calls Tryz.prog 43 #[.string s] w fun r w' => r = .returned (.agg #[.int .i64 8, .int .i64 0, .string s, .string ⟨#[]⟩]) ∧ RowKit.Below w.heap.size w w' := by
  go_enter Tryz.func43, Tryz.ntmps43
  go_wp2_with fail
  exact bodyPost_ret (v := .agg #[.int .i64 8, .int .i64 0, .string s, .string ⟨#[]⟩]) (by simp [results, Tryz.results43, go_sem]) rfl ⟨rfl, by (repeat (first | assumption | exact Below.refl _ _ | apply Below.drew | apply below_drewN | (refine Below.alloc ?_ (by first | exact Nat.le_refl _ | omega | (simp; done) | (simp; omega)) _)))⟩
def nmA : ByteArray := ⟨#[97]⟩
def nmB : ByteArray := ⟨#[98]⟩
def exAB : List Nd := [⟨11, 0, ⟨#[]⟩, ⟨#[]⟩⟩, ⟨8, 0, nmA, ⟨#[]⟩⟩, ⟨8, 0, nmB, ⟨#[]⟩⟩]
theorem fact_ab : frmErr exAB [[97], [98]] = 0 ∧ onesP exAB [[97], [98]] = 1 := by
  have h : frmErr exAB [[97], [98]] = 0 := by
    refine frm_ok.2 ⟨?_, atoms_ok.2 ⟨by simp, by simp, rfl, ?_⟩⟩
    · simp [exAB, nmA, nmB, treeErr, bGo, shapedT, ndParts, variableB, nameErr, nameB, letterI, digitI, reserved, ByteArray.toList_mk]
    · simp [exAB, nmA, nmB, ByteArray.toList_mk]
  refine ⟨h, ?_⟩
  unfold onesP tableP
  rw [if_neg (by simp [h])]
  simp [tabB, exAB, evL, evG, twoB, vB, nmA, nmB, ByteArray.toList_mk, List.range_succ, onesL]
  rfl
theorem strs_new (W : World) (T : TypeId) (ss : List (List UInt8)) (cs : Array Value) (h : cs = (ss.map encStr).toArray) : StrSl (W.alloc (.cells cs T)) (W.alloc (.cells cs T)).heap.size (some ⟨W.heap.size, 0, none⟩) ss := fun _ =>
  ⟨W.heap.size, 0, rfl, by simp, fun i l hl => by
    subst h
    rw [World.cell?_alloc_new, Nat.zero_add]; simp [hl]⟩
theorem law_atoms (w : World) : Calls Tryz.prog 44 #[] w fun r w' => ∃ A c, r = .returned (.slice A 2 c) ∧ 2 ≤ c ∧ c ≤ 9223372036854775807 ∧ StrSl w' w'.heap.size A [[97], [98]] ∧ RowKit.Below w.heap.size w w' := by
  go_enter Tryz.func44, Tryz.ntmps44
  go_wp2_with fail
  go_ret
  exact ⟨_, 2, rfl, by omega, by omega, strs_new w 9 [[97], [98]] _ rfl, by (repeat (first | assumption | exact Below.refl _ _ | apply Below.drew | apply below_drewN | (refine Below.alloc ?_ (by first | exact Nat.le_refl _ | omega | (simp; done) | (simp; omega)) _)))⟩
theorem nds_new (W : World) (T : TypeId) (xs : List Nd) (cs : Array Value) (h : cs.toList = flat xs) : NdSl (W.alloc (.cells cs T)) (W.alloc (.cells cs T)).heap.size (some ⟨W.heap.size, 0, none⟩) xs :=
  NdSl.of_flat (by simp) fun j u hu => by rw [World.cell?_alloc_new, ← hu, ← h, Array.getElem?_toList]
set_option maxRecDepth 100000 in
set_option maxHeartbeats 3200000 in
theorem law_tabled (w : World) : Calls Tryz.prog 15 #[] w fun r w' => r = .returned (.bool true) ∧ RowKit.Below w.heap.size w w' := by
  have HO : Hid (∀ W An cn, StrSl W W.heap.size An [[97], [98]] → 2 ≤ cn → cn ≤ 9223372036854775807 → ∀ A, NdSl W W.heap.size A exAB → Calls Tryz.prog 42 #[.slice A 3 3, .slice An 2 cn] W fun r w' => r = .returned (.tuple #[.int .i64 1, .nilIface]) ∧ RowKit.Below W.heap.size W w') := by
    intro W An cn hs h1 h2 A hA
    have hok : NdOk exAB := tree_ok (frm_ok.1 fact_ab.1).1
    have h := truth_Ones exAB A 3 [[97], [98]] An cn W (Nat.le_refl _) (by omega) hok hA hs h1 h2
    rw [fact_ab.1, fact_ab.2] at h
    exact h
  go_enter Tryz.func15, Tryz.ntmps15
  go_wp2_with fail
  refine (law_name _ w).mono ?_
  rintro r w1 ⟨rfl, hb1⟩
  go_wp2_with fail
  refine (law_name _ w1).mono ?_
  rintro r w2 ⟨rfl, hb2⟩
  have hw2 := hb1.trans (hb2.mono hb1.size)
  clear hb1 hb2
  go_wp2_with fail
  have HE := Lib.hid (nds_new w2 37 exAB #[.int .i64 11, .int .i64 0, .string ⟨#[]⟩, .string ⟨#[]⟩, .int .i64 8, .int .i64 0, .string ⟨#[97]⟩, .string ⟨#[]⟩, .int .i64 8, .int .i64 0, .string ⟨#[98]⟩, .string ⟨#[]⟩] rfl)
  have hw3 : RowKit.Below w.heap.size w (w2.alloc (.cells #[.int .i64 11, .int .i64 0, .string ⟨#[]⟩, .string ⟨#[]⟩, .int .i64 8, .int .i64 0, .string ⟨#[97]⟩, .string ⟨#[]⟩, .int .i64 8, .int .i64 0, .string ⟨#[98]⟩, .string ⟨#[]⟩] 37)) := hw2.alloc hw2.size _
  refine (law_atoms _).mono ?_
  rintro r w4 ⟨An, cn, rfl, h1, h2, h3, hb4⟩
  have HS := Lib.hid h3
  have HE4 := Lib.hid ((HE.out.below hb4).more hb4.size)
  have hw4 := hw3.trans (hb4.mono hw3.size)
  clear h3 hb4 hw3
  go_wp2_with fail
  refine (HO.out w4 An cn HS.out h1 h2 _ HE4.out).mono ?_
  rintro r w5 ⟨rfl, hb5⟩
  go_wp2_with fail
  go_ret
  exact ⟨rfl, hw4.trans (hb5.mono hw4.size)⟩
end Go.Proofs.YtpheiojmcafolaaGreatDoor
namespace Go.Proofs.YtpheiojmcafolaaGreatDoor
open Go.RowKit
theorem node_info : (Tryz.prog.info? 37).map (fun i => (i.zero, i.size, i.bytes)) = some (some (.agg #[.int .i64 0, .int .i64 0, .string ⟨#[]⟩, .string ⟨#[]⟩]), 4, 48) := by kernel_rfl

set_option maxRecDepth 100000 in
set_option maxHeartbeats 1600000 in
theorem tree_Put (e v : List Nd) (s : ByteArray) (A Av : Option Addr) (c cv : Nat) (w : World) (hc : e.length ≤ c) (hcm : c ≤ 9223372036854775807) (hok : NdOk e) (hsl : NdSl w w.heap.size A e)
    (hcv : v.length ≤ cv) (hcvm : cv ≤ 9223372036854775807) (hokv : NdOk v) (hslv : NdSl w w.heap.size Av v) :
    Calls Tryz.prog 17 #[.slice A e.length c, .string s, .slice Av v.length cv] w fun r w' => NdsBack w r w' (putV e s v).1 (putV e s v).2 := by
  obtain ⟨i0, hi, hz0, hz1, hz2⟩ := info_parts node_info
  have hchk := fun W (hW : Below w.heap.size w W) => tree_Check e A c W hc hcm hok ((hsl.below hW).more hW.size)
  have hchkv := fun W (hW : Below w.heap.size w W) => tree_Check v Av cv W hcv hcvm hokv ((hslv.below hW).more hW.size)
  have HCH := Lib.hid hchk
  have HCV := Lib.hid hchkv
  clear hchk hchkv hok hokv
  by_cases h0 : treeErr e = 0
  · have hne : (treeErr e != 0) = false := by simp [h0]
    by_cases h1 : treeErr v = 0
    · have hnv : (treeErr v != 0) = false := by simp [h1]
      have hle := tree_len h0
      have hlv := tree_len h1
      have HV : Hid (putV e s v = if 200 < (putL e s v).length then ([], 4) else (putL e s v, 0)) := by show _ = _; simp [putV, h0, h1]
      have HS := Lib.hid hsl
      have HSV := Lib.hid hslv
      clear h0 h1 hsl hslv
      go_enter Tryz.func17, Tryz.ntmps17
      go_wp2_with fail
      refine (HCH.out _ (Below.refl _ _)).mono ?_
      rintro r w1 ⟨rfl, hb1⟩
      go_wp2_with fail
      refine (HCV.out _ hb1).mono ?_
      rintro r w2 ⟨rfl, hb2⟩
      have hw2 : Below w.heap.size w w2 := hb1.trans (hb2.mono hb1.size)
      clear hb1 hb2
      go_wp2_with fail
      go_loopw [10, 25] (fun out kk wr => ∃ k : Nat, kk = .int .i64 k ∧ k ≤ e.length ∧ (putL (e.take k) s v).length ≤ 200 ∧ Hid (wr.ownsRow w.heap.size 37 4 out (putL (e.take k) s v).length (flat (putL (e.take k) s v))) ∧ Below w.heap.size w wr)
        (fun _ kk _ => e.length - (intOf kk).toNat)
      case atStart => exact ⟨0, rfl, by omega, by simp [putL], World.ownsRow_nil _ _ _ _, hw2⟩
      case round =>
        obtain ⟨k, rfl, hk, hpl, HO, hbr⟩ := hrel
        have hzr := hbr.size
        by_cases hlt : k < e.length
        · obtain ⟨b, o, rfl, hb, hcs⟩ := (HS.out.below hbr).at_ hlt
          obtain ⟨x, hx⟩ : ∃ x, e[k]? = some x := ⟨_, List.getElem?_eq_getElem hlt⟩
          obtain ⟨d0, d1, d2, d3⟩ := hcs k x hx
          have hps := putL_step hx s v
          have hptl := putL_take_le e (k + 1) s v
          have HPS := Lib.hid hps
          clear hcs hx hps
          generalize hpk : putL (e.take k) s v = pk at HPS hpl HO
          clear hpk
          by_cases hv : isVar s x = true
          · have h8 : (x.op == 8) = true := by unfold isVar at hv; simp at hv; simp [hv.1]
            have hss : (x.s.toList == s.toList) = true := by unfold isVar at hv; simp at hv; simp [hv.2]
            obtain ⟨bv, ov, rfl, hbv, _⟩ := (HSV.out.below hbr).at_ hlv.2
            have HFV : Hid (∀ O j u, (flat v)[j]? = some u → (wr.alloc O).cell? ((⟨bv, ov, none⟩ : Addr).add j) = some u) := (HSV.out.below hbr).flat_alloc (by omega)
            rw [if_pos hv] at HPS
            clear hv
            by_cases hbig : 200 < pk.length + v.length
            · go_wp2_with (at_builtin; refine wpList_append_own _ rfl (.tmp 38) (.tmp 39) 22 rfl w.heap.size 37 i0 _ 4 48 Tryz.underlying22 hi hz0 hz1 hz2 rfl (by omega) u10 pk.length (flat pk) rfl (HO.out.alloc _) ⟨bv, ov, none⟩ v.length cv (flat v) rfl (flat_len v) (HFV.out _) (flat_one_cell v) (by unfold maxLen; omega) (by omega) (by simp; omega) ?_; intro v1 w1 hown1 hgrow1 _; obtain ⟨A1, c1, hv1, hcc1, hcm1, hs1⟩ := own_form hown1)
              have HO1 : Hid (w1.ownsRow w.heap.size 37 4 v1 (pk.length + v.length) (flat (pk ++ v))) := by rw [flat_append]; exact hown1
              have hb1 : Below w.heap.size w w1 := (hbr.alloc hbr.size _).grown hgrow1 (by simp; omega) (fun q hq => (HO.out.lt q hq).1)
              have HO2 : Hid (w1.ownsRow w.heap.size 37 4 (.slice A1 (pk.length + v.length) c1) (pk.length + v.length) (flat (pk ++ v))) := by rw [← hv1]; exact HO1.out
              clear hown1 hgrow1 hv1 HFV HO1
              go_ret2
              have hp := HPS.out
              have hl : 200 < (putL e s v).length := by rw [hp, List.length_append] at hptl; omega
              rw [HV.out, if_pos hl]
              exact NdsBack.none (k := 4) hb1
            · go_wp2_with (at_builtin; refine wpList_append_own _ rfl (.tmp 38) (.tmp 39) 22 rfl w.heap.size 37 i0 _ 4 48 Tryz.underlying22 hi hz0 hz1 hz2 rfl (by omega) u10 pk.length (flat pk) rfl (HO.out.alloc _) ⟨bv, ov, none⟩ v.length cv (flat v) rfl (flat_len v) (HFV.out _) (flat_one_cell v) (by unfold maxLen; omega) (by omega) (by simp; omega) ?_; intro v1 w1 hown1 hgrow1 _; obtain ⟨A1, c1, hv1, hcc1, hcm1, hs1⟩ := own_form hown1)
              have HO1 : Hid (w1.ownsRow w.heap.size 37 4 v1 (pk.length + v.length) (flat (pk ++ v))) := by rw [flat_append]; exact hown1
              have hb1 : Below w.heap.size w w1 := (hbr.alloc hbr.size _).grown hgrow1 (by simp; omega) (fun q hq => (HO.out.lt q hq).1)
              have HO2 : Hid (w1.ownsRow w.heap.size 37 4 (.slice A1 (pk.length + v.length) c1) (pk.length + v.length) (flat (pk ++ v))) := by rw [← hv1]; exact HO1.out
              clear hown1 hgrow1 hv1 HFV HO1
              have hp := HPS.out
              exact ⟨⟨k + 1, by go_num, by omega, by rw [hp, List.length_append]; omega, by rw [hp, List.length_append]; exact HO2, hb1⟩, by simp [intOf]; omega⟩
          · have hv0 : isVar s x = false := by simpa using hv
            have HFV : Hid (∀ j u, (flat [x])[j]? = some u → ((wr.alloc (.cells #[.int .i64 x.op, .int .i64 x.n, .string x.s, .string x.t] 37)).alloc (.cells #[.int .i64 x.op, .int .i64 x.n, .string x.s, .string x.t] 37)).cell? ((⟨wr.heap.size + 1, 0, none⟩ : Addr).add j) = some u) := by
              exact fun j u hu => new_flat _ _ x _ (by simp) j u hu
            rw [if_neg hv] at HPS
            by_cases h8 : (x.op == 8) = true
            · have hss : (x.s.toList == s.toList) = false := by unfold isVar at hv0; rw [h8] at hv0; simpa using hv0
              clear hv hv0
              by_cases hbig : 200 < pk.length + 1
              · go_wp2_with (at_builtin; refine wpList_append_own _ rfl (.tmp 41) (.tmp 43) 22 rfl w.heap.size 37 i0 _ 4 48 Tryz.underlying22 hi hz0 hz1 hz2 rfl (by omega) u10 pk.length (flat pk) rfl ((HO.out.alloc _).alloc _) ⟨wr.heap.size + 1, 0, none⟩ 1 1 (flat [x]) rfl (flat_len [x]) HFV.out (flat_one_cell [x]) (by unfold maxLen; omega) (by omega) (by simp; omega) ?_; intro v1 w1 hown1 hgrow1 _; obtain ⟨A1, c1, hv1, hcc1, hcm1, hs1⟩ := own_form hown1)
                have HO1 : Hid (w1.ownsRow w.heap.size 37 4 v1 (pk.length + 1) (flat (pk ++ [x]))) := by rw [flat_append]; exact hown1
                have hb1 : Below w.heap.size w w1 := ((hbr.alloc hbr.size _).alloc (by simp; omega) _).grown hgrow1 (by simp; omega) (fun q hq => (HO.out.lt q hq).1)
                have HO2 : Hid (w1.ownsRow w.heap.size 37 4 (.slice A1 (pk.length + 1) c1) (pk.length + 1) (flat (pk ++ [x]))) := by rw [← hv1]; exact HO1.out
                clear hown1 hgrow1 hv1 HFV HO1
                go_ret2
                have hp := HPS.out
                have hl : 200 < (putL e s v).length := by rw [hp, List.length_append, List.length_singleton] at hptl; omega
                rw [HV.out, if_pos hl]
                exact NdsBack.none (k := 4) hb1
              · go_wp2_with (at_builtin; refine wpList_append_own _ rfl (.tmp 41) (.tmp 43) 22 rfl w.heap.size 37 i0 _ 4 48 Tryz.underlying22 hi hz0 hz1 hz2 rfl (by omega) u10 pk.length (flat pk) rfl ((HO.out.alloc _).alloc _) ⟨wr.heap.size + 1, 0, none⟩ 1 1 (flat [x]) rfl (flat_len [x]) HFV.out (flat_one_cell [x]) (by unfold maxLen; omega) (by omega) (by simp; omega) ?_; intro v1 w1 hown1 hgrow1 _; obtain ⟨A1, c1, hv1, hcc1, hcm1, hs1⟩ := own_form hown1)
                have HO1 : Hid (w1.ownsRow w.heap.size 37 4 v1 (pk.length + 1) (flat (pk ++ [x]))) := by rw [flat_append]; exact hown1
                have hb1 : Below w.heap.size w w1 := ((hbr.alloc hbr.size _).alloc (by simp; omega) _).grown hgrow1 (by simp; omega) (fun q hq => (HO.out.lt q hq).1)
                have HO2 : Hid (w1.ownsRow w.heap.size 37 4 (.slice A1 (pk.length + 1) c1) (pk.length + 1) (flat (pk ++ [x]))) := by rw [← hv1]; exact HO1.out
                clear hown1 hgrow1 hv1 HFV HO1
                have hp := HPS.out
                exact ⟨⟨k + 1, by go_num, by omega, by rw [hp, List.length_append, List.length_singleton]; omega, by rw [hp, List.length_append, List.length_singleton]; exact HO2, hb1⟩, by simp [intOf]; omega⟩
            · have h8' : (x.op == 8) = false := by simpa using h8
              clear hv hv0 h8
              by_cases hbig : 200 < pk.length + 1
              · go_wp2_with (at_builtin; refine wpList_append_own _ rfl (.tmp 41) (.tmp 43) 22 rfl w.heap.size 37 i0 _ 4 48 Tryz.underlying22 hi hz0 hz1 hz2 rfl (by omega) u10 pk.length (flat pk) rfl ((HO.out.alloc _).alloc _) ⟨wr.heap.size + 1, 0, none⟩ 1 1 (flat [x]) rfl (flat_len [x]) HFV.out (flat_one_cell [x]) (by unfold maxLen; omega) (by omega) (by simp; omega) ?_; intro v1 w1 hown1 hgrow1 _; obtain ⟨A1, c1, hv1, hcc1, hcm1, hs1⟩ := own_form hown1)
                have HO1 : Hid (w1.ownsRow w.heap.size 37 4 v1 (pk.length + 1) (flat (pk ++ [x]))) := by rw [flat_append]; exact hown1
                have hb1 : Below w.heap.size w w1 := ((hbr.alloc hbr.size _).alloc (by simp; omega) _).grown hgrow1 (by simp; omega) (fun q hq => (HO.out.lt q hq).1)
                have HO2 : Hid (w1.ownsRow w.heap.size 37 4 (.slice A1 (pk.length + 1) c1) (pk.length + 1) (flat (pk ++ [x]))) := by rw [← hv1]; exact HO1.out
                clear hown1 hgrow1 hv1 HFV HO1
                go_ret2
                have hp := HPS.out
                have hl : 200 < (putL e s v).length := by rw [hp, List.length_append, List.length_singleton] at hptl; omega
                rw [HV.out, if_pos hl]
                exact NdsBack.none (k := 4) hb1
              · go_wp2_with (at_builtin; refine wpList_append_own _ rfl (.tmp 41) (.tmp 43) 22 rfl w.heap.size 37 i0 _ 4 48 Tryz.underlying22 hi hz0 hz1 hz2 rfl (by omega) u10 pk.length (flat pk) rfl ((HO.out.alloc _).alloc _) ⟨wr.heap.size + 1, 0, none⟩ 1 1 (flat [x]) rfl (flat_len [x]) HFV.out (flat_one_cell [x]) (by unfold maxLen; omega) (by omega) (by simp; omega) ?_; intro v1 w1 hown1 hgrow1 _; obtain ⟨A1, c1, hv1, hcc1, hcm1, hs1⟩ := own_form hown1)
                have HO1 : Hid (w1.ownsRow w.heap.size 37 4 v1 (pk.length + 1) (flat (pk ++ [x]))) := by rw [flat_append]; exact hown1
                have hb1 : Below w.heap.size w w1 := ((hbr.alloc hbr.size _).alloc (by simp; omega) _).grown hgrow1 (by simp; omega) (fun q hq => (HO.out.lt q hq).1)
                have HO2 : Hid (w1.ownsRow w.heap.size 37 4 (.slice A1 (pk.length + 1) c1) (pk.length + 1) (flat (pk ++ [x]))) := by rw [← hv1]; exact HO1.out
                clear hown1 hgrow1 hv1 HFV HO1
                have hp := HPS.out
                exact ⟨⟨k + 1, by go_num, by omega, by rw [hp, List.length_append, List.length_singleton]; omega, by rw [hp, List.length_append, List.length_singleton]; exact HO2, hb1⟩, by simp [intOf]; omega⟩
        · have HPK : Hid (putL (e.take k) s v = putL e s v) := by show _ = _; rw [List.take_of_length_le (by omega)]
          rw [HPK.out] at HO hpl
          obtain ⟨A1, c1, hv1, hcc1, hcm1, hs1⟩ := own_form (xs := putL e s v) (ys := []) (by rw [show flat [] = [] from rfl, List.append_nil]; exact HO.out)
          rw [List.append_nil] at hs1
          have HV1 := Lib.hid hv1
          have HS1 := Lib.hid hs1
          clear hv1 hs1
          go_wp2_with fail
          go_ret2
          rw [HV.out, if_neg (by omega), HV1.out]
          exact ⟨A1, c1, rfl, hcc1, hcm1, HS1.out, hbr⟩
    · have HV : Hid (putV e s v = ([], treeErr v)) := by show _ = _; simp [putV, h0, h1]
      have hnv : (treeErr v != 0) = true := by simp [h1]
      clear h0 h1 hsl hslv
      go_enter Tryz.func17, Tryz.ntmps17
      go_wp2_with fail
      refine (HCH.out _ (Below.refl _ _)).mono ?_
      rintro r w1 ⟨rfl, hb1⟩
      go_wp2_with fail
      refine (HCV.out _ hb1).mono ?_
      rintro r w2 ⟨rfl, hb2⟩
      go_wp2_with fail
      go_ret2
      rw [HV.out]
      exact NdsBack.none (hb1.trans (hb2.mono hb1.size))
  · have HV : Hid (putV e s v = ([], treeErr e)) := by show _ = _; simp [putV, h0]
    have hne : (treeErr e != 0) = true := by simp [h0]
    clear h0 hsl hslv
    go_enter Tryz.func17, Tryz.ntmps17
    go_wp2_with fail
    refine (HCH.out _ (Below.refl _ _)).mono ?_
    rintro r w1 ⟨rfl, hb1⟩
    go_wp2_with fail
    go_ret2
    rw [HV.out]
    exact NdsBack.none hb1
end Go.Proofs.YtpheiojmcafolaaGreatDoor
namespace Go.Proofs.YtpheiojmcafolaaGreatDoor
open Go.RowKit Go.Sort
theorem r3_Truth (b : Bool) (w : World) : Calls Tryz.prog 18 #[.bool b] w fun r w' => ∃ A c, r = .returned (.slice A 1 c) ∧ NsGood w' w'.heap.size ⟨A, c, [trN b]⟩ ∧ RowKit.Below w.heap.size w w' := by
  have hg : ∀ (x : Nd), NsGood (w.alloc (.cells #[.int .i64 x.op, .int .i64 x.n, .string x.s, .string x.t] 37)) (w.alloc (.cells #[.int .i64 x.op, .int .i64 x.n, .string x.s, .string x.t] 37)).heap.size ⟨some ⟨w.heap.size, 0, none⟩, 1, [x]⟩ := by
    intro x
    refine ⟨fun _ => ⟨w.heap.size, 0, rfl, by simp, fun i y hy => ?_⟩, Nat.le_refl _, by show 1 ≤ 9223372036854775807; omega⟩
    cases i with
    | succ i => simp at hy
    | zero =>
      simp at hy; subst hy
      exact ⟨by rw [World.cell?_alloc_new]; rfl, by rw [World.cell?_alloc_new]; rfl, by rw [World.cell?_alloc_new]; rfl, by rw [World.cell?_alloc_new]; rfl⟩
  cases b
  all_goals
    go_enter Tryz.func18, Tryz.ntmps18
    go_wp2_with fail
    go_ret
  · exact ⟨_, _, rfl, hg (trN false), by (repeat (first | assumption | exact Below.refl _ _ | apply Below.drew | apply below_drewN | (refine Below.alloc ?_ (by first | exact Nat.le_refl _ | omega | (simp; done) | (simp; omega)) _)))⟩
  · exact ⟨_, _, rfl, hg (trN true), by (repeat (first | assumption | exact Below.refl _ _ | apply Below.drew | apply below_drewN | (refine Below.alloc ?_ (by first | exact Nat.le_refl _ | omega | (simp; done) | (simp; omega)) _)))⟩
end Go.Proofs.YtpheiojmcafolaaGreatDoor
namespace Go.Proofs.YtpheiojmcafolaaGreatDoor
set_option maxRecDepth 100000
open Go.RowKit Go.Sort Go.Maps
def udC (u : Ud) : List Value := [.string u.ty, .string u.id]
abbrev UdSl := SlG udC 2
def udV (u : Ud) : Value := .agg #[.string u.ty, .string u.id]
theorem ud_deep : Tryz.prog.keyType 34 = true := by kernel_rfl
theorem ud_cells : Tryz.prog.cellsOf 34 = 2 := by kernel_rfl
theorem str_cells : Tryz.prog.cellsOf 9 = 1 := by kernel_rfl
theorem ud_wide : (match Tryz.prog.underlying 34 with | some (.array _ _) | some (.struct _) => true | _ => false) = true := by rw [Tryz.underlying34]
theorem ud_laid : laidOutB Tryz.prog = true := by kernel_rfl
theorem ud_size : 1 ≤ Tryz.prog.types.size := of_decide_eq_true (by kernel_rfl)
theorem ud_law : Maps.Keyed Tryz.prog 34 := Maps.Keyed.of_law (deep_law_gate ud_laid (of_decide_eq_true (by kernel_rfl)) (of_decide_eq_true (by kernel_rfl)) ud_deep ud_wide)
/-- Uids whose strings are no longer than a string may be. -/
structure UdSm (u : Ud) : Prop where
  ty : u.ty.size ≤ maxLen
  id : u.id.size ≤ maxLen
theorem lits_str {P : Program} {d t : Nat} {s : ByteArray} (hu : P.underlying t = some .string) (hl : s.size ≤ maxLen) : P.keyLits (d + 1) t [.string s] = some [.string s.data.toList] := by
  simp [Program.keyLits, hu, hl]
theorem ud_keyed {c : Ud} (h : UdSm c) : ∃ l, keyOf Tryz.prog 34 (udV c) = some l := by
  obtain ⟨m, hm⟩ : ∃ m, Tryz.prog.types.size + 1 = m + 1 + 1 := ⟨Tryz.prog.types.size - 1, by have := ud_size; omega⟩
  have f : (udV c).formed Tryz.prog 34 = true := by simp [udV, Value.formed, Tryz.underlying34, ud_cells]
  have e1 := lits_str (P := Tryz.prog) (d := m) (t := 9) Tryz.underlying9 h.ty
  have e2 := lits_str (P := Tryz.prog) (d := m) (t := 9) Tryz.underlying9 h.id
  unfold keyOf
  rw [Tryz.underlying34]
  simp only [ud_deep, f, Bool.and_self, if_true, hm]
  unfold Program.keyLits
  rw [Tryz.underlying34]
  simp [ud_cells, str_cells, udV, Value.cells, e1, e2]
noncomputable def udK (c : Ud) : Lit := (keyOf Tryz.prog 34 (udV c)).getD (.bool true)
theorem udK_eq {c : Ud} (h : UdSm c) : keyOf Tryz.prog 34 (udV c) = some (udK c) := by
  obtain ⟨l, hl⟩ := ud_keyed h
  unfold udK; rw [hl]; rfl
theorem udK_inj {c d : Ud} (hc : UdSm c) (hd : UdSm d) (e : udK c = udK d) : c = d := by
  have h1 := udK_eq hc
  have h2 := udK_eq hd
  rw [← e] at h2
  have := ud_law.inj h1 h2
  cases c; cases d
  simp [udV] at this
  obtain ⟨rfl, rfl⟩ := this
  rfl
end Go.Proofs.YtpheiojmcafolaaGreatDoor
namespace Go.Proofs.YtpheiojmcafolaaGreatDoor
set_option maxRecDepth 100000
open Go.RowKit
/-- The header of an entity: its uid, and where its two lists lie. -/
structure Eh where
  u : Ud
  ua : Option Addr
  un : Nat
  uc : Nat
  aa : Option Addr
  an : Nat
  ac : Nat
def ehC (e : Eh) : List Value := [.string e.u.ty, .string e.u.id, .slice e.ua e.un e.uc, .slice e.aa e.an e.ac]
abbrev EhSl := SlG ehC 4
/-- A header leads to this entity. -/
structure EhOk (w : World) (B : Nat) (h : Eh) (e : En) : Prop where
  u : h.u = e.u
  un : h.un = e.up.length
  uc : h.un ≤ h.uc ∧ h.uc ≤ 9223372036854775807
  up : UdSl w B h.ua e.up
  an : h.an = e.at_.length
  ac : h.an ≤ h.ac ∧ h.ac ≤ 9223372036854775807
  at_ : NdSl w B h.aa e.at_
theorem EhOk.below {w w' : World} {B : Nat} {h : Eh} {e : En} (k : EhOk w B h e) (hb : Below B w w') : EhOk w' B h e :=
  ⟨k.u, k.un, k.uc, k.up.below hb, k.an, k.ac, k.at_.below hb⟩
theorem EhOk.more {w : World} {B B' : Nat} {h : Eh} {e : En} (k : EhOk w B h e) (hb : B ≤ B') : EhOk w B' h e :=
  ⟨k.u, k.un, k.uc, k.up.more hb, k.an, k.ac, k.at_.more hb⟩
/-- Headers and their entities. -/
structure Ens (w : World) (B : Nat) (hs : List Eh) (es : List En) : Prop where
  len : hs.length = es.length
  at_ : ∀ (i : Nat) (h : Eh) (e : En), hs[i]? = some h → es[i]? = some e → EhOk w B h e
theorem Ens.below {w w' : World} {B : Nat} {hs : List Eh} {es : List En} (k : Ens w B hs es) (hb : Below B w w') : Ens w' B hs es :=
  ⟨k.len, fun i h e h1 h2 => (k.at_ i h e h1 h2).below hb⟩
theorem Ens.more {w : World} {B B' : Nat} {hs : List Eh} {es : List En} (k : Ens w B hs es) (hb : B ≤ B') : Ens w B' hs es :=
  ⟨k.len, fun i h e h1 h2 => (k.at_ i h e h1 h2).more hb⟩
end Go.Proofs.YtpheiojmcafolaaGreatDoor
namespace Go.Proofs.YtpheiojmcafolaaGreatDoor
set_option maxRecDepth 100000
open Go.RowKit Go.Sort
theorem bs_same (a b : ByteArray) : a.toList = b.toList ↔ a = b := by
  refine ⟨fun h => ?_, fun h => by rw [h]⟩
  rw [ByteArray.toList_eq, ByteArray.toList_eq] at h
  exact ByteArray.ext (Array.toList_inj.1 h)
theorem eq_ud (x y : Ud) (w : World) : (Op.equalIn 10000 34 (.agg #[.string x.ty, .string x.id]) (.agg #[.string y.ty, .string y.id])).run Tryz.prog w = .ok (decide (x = y)) w := by
  have u3 := Tryz.underlying9
  have a3 := Tryz.isAgg9
  have z3 := Tryz.sizeOf9
  have hS : Tryz.prog.underlying 34 = some (.struct (Tryz.prog.fieldsOf 34)) := by kernel_rfl
  have hp : Tryz.prog.stoodInHeld 34 = false := by kernel_rfl
  rw [show (10000 : Nat) = 9999 + 1 from rfl, run_equalIn_agg w 9999 34 _ _ hS hp]
  simp only [Program.fieldsOf, Tryz.underlying34]
  go_simp
  obtain ⟨a, l⟩ := x
  obtain ⟨a', l'⟩ := y
  by_cases h1 : a = a' <;> by_cases h2 : l = l' <;> simp [bs_same, h1, h2]
theorem eql_ud (x y : Ud) (w : World) : (binOp .eql 34 (.agg #[.string x.ty, .string x.id]) (.agg #[.string y.ty, .string y.id])).run Tryz.prog w = .ok (.bool (decide (x = y))) w := by
  rw [run_eql_struct, eq_ud]; rfl
theorem udSl_at {w : World} {B : Nat} {A : Option Addr} {xs : List Ud} (h : UdSl w B A xs) {i : Nat} {x : Ud} (hx : xs[i]? = some x) : ∃ b o, A = some ⟨b, o, none⟩ ∧ b < B ∧ w.cell? ⟨b, o + i * 2, none⟩ = some (.string x.ty) ∧ w.cell? ⟨b, o + i * 2 + 1, none⟩ = some (.string x.id) := by
  obtain ⟨b, o, e, hb, hc⟩ := h.at_ (List.getElem?_eq_some_iff.1 hx).1
  have := hc i x hx
  exact ⟨b, o, e, hb, this 0 _ rfl, this 1 _ rfl⟩
/-- Where a uid stands first, or -1. -/
def idxU (xs : List Ud) (x : Ud) : Int := if x ∈ xs then (xs.idxOf x : Int) else -1
theorem idx_hit {xs : List Ud} {x y : Ud} {k : Nat} (hx : xs[k]? = some y) (hn : x ∉ xs.take k) (h : x = y) : idxU xs x = k := by
  subst h
  have hm := List.mem_of_getElem? hx
  obtain ⟨hk, he⟩ := List.getElem?_eq_some_iff.1 hx
  have e : xs = xs.take k ++ x :: xs.drop (k + 1) := by rw [← he, ← List.drop_eq_getElem_cons hk, List.take_append_drop]
  rw [idxU, if_pos hm]
  have : xs.idxOf x = k := by
    rw [e, List.idxOf_append, if_neg hn]; simp; omega
  rw [this]
set_option maxHeartbeats 1600000 in
theorem ud_index (xs : List Ud) (x : Ud) (A : Option Addr) (c : Nat) (w : World) (hl : xs.length ≤ 9223372036854775807) (hs : UdSl w w.heap.size A xs) :
    Calls Tryz.prog 128 #[.slice A xs.length c, .agg #[.string x.ty, .string x.id]] w fun r w' => r = .returned (.int .i64 (idxU xs x)) ∧ Below w.heap.size w w' := by
  have HS := Lib.hid hs
  clear hs
  go_enter Tryz.func128, Tryz.ntmps128
  go_wp2_with fail
  go_loopw [8] (fun kk wr => ∃ k : Nat, kk = .int .i64 k ∧ k ≤ xs.length ∧ Hid (x ∉ xs.take k) ∧ Below w.heap.size w wr ∧ wr.cell? ⟨w.heap.size, 0, none⟩ = some (.string x.ty) ∧ wr.cell? ⟨w.heap.size, 1, none⟩ = some (.string x.id)) (fun kk _ => xs.length - (intOf kk).toNat)
  case atStart => exact ⟨0, rfl, by omega, by simp [Hid], by (repeat (first | assumption | exact Below.refl _ _ | apply Below.drew | apply below_drewN | (refine Below.alloc ?_ (by first | exact Nat.le_refl _ | omega | (simp; done) | (simp; omega)) _))), by simp [World.cell?_alloc_new], by simp [World.cell?_alloc_new]⟩
  case round =>
    obtain ⟨k, rfl, hk, HK, hbr, v0, v1⟩ := hrel
    have hzr := hbr.size
    by_cases hlt : k < xs.length
    · obtain ⟨y, hy⟩ : ∃ y, xs[k]? = some y := ⟨_, List.getElem?_eq_getElem hlt⟩
      obtain ⟨b1, o1, rfl, hb1, c0, c1⟩ := udSl_at (HS.out.below hbr) hy
      have HX := Lib.hid hy
      clear hy
      have i1 : 0 ≤ (k : Int) := by omega
      have i2 : (k : Int) < (xs.length : Int) := by omega
      have heq : ∀ W, (binOp .eql 34 (.agg #[.string x.ty, .string x.id]) (.agg #[.string y.ty, .string y.id])).run Tryz.prog W = .ok (.bool (decide (x = y))) W := fun W => eql_ud x y W
      have heq2 : ∀ W, (Op.equalIn 10000 34 (.agg #[.string x.ty, .string x.id]) (.agg #[.string y.ty, .string y.id])).run Tryz.prog W = .ok (decide (x = y)) W := fun W => eq_ud x y W
      by_cases hh : x = y
      · have hd : decide (x = y) = true := by simp [hh]
        rw [hd] at heq heq2
        have HH := Lib.hid hh
        clear hh hd
        go_wp2_with fail
        go_quiet (fail)
        go_wp2_with fail
        go_ret
        refine ⟨?_, below_drewN hbr _⟩
        rw [idx_hit HX.out HK.out HH.out]
        rfl
      · have hd : decide (x = y) = false := by simp [hh]
        rw [hd] at heq heq2
        have HH : Hid (x ∉ xs.take (k + 1)) := by
          show ¬ _
          rw [List.take_add_one, HX.out]
          have := HK.out
          simp [hh, this]
        clear hh hd
        go_wp2_with fail
        go_quiet (fail)
        go_wp2_with fail
        exact ⟨⟨k + 1, by go_num, by omega, HH, below_drewN hbr _, by simpa using v0, by simpa using v1⟩, by simp [intOf]; omega⟩
    · have HE : Hid (idxU xs x = -1) := by
        have := HK.out
        rw [List.take_of_length_le (by omega)] at this
        show _ = _
        simp [idxU, this]
      go_wp2_with fail
      go_ret
      rw [HE.out]
      exact ⟨rfl, hbr⟩
theorem idxU_mem {xs : List Ud} {x : Ud} : decide (0 ≤ idxU xs x) = decide (x ∈ xs) := by
  unfold idxU
  by_cases h : x ∈ xs <;> simp [h]
set_option maxHeartbeats 1600000 in
theorem ud_contains (xs : List Ud) (x : Ud) (A : Option Addr) (c : Nat) (w : World) (hl : xs.length ≤ 9223372036854775807) (hs : UdSl w w.heap.size A xs) :
    Calls Tryz.prog 94 #[.slice A xs.length c, .agg #[.string x.ty, .string x.id]] w fun r w' => r = .returned (.bool (decide (x ∈ xs))) ∧ Below w.heap.size w w' := by
  have HB : Hid (Below w.heap.size w (w.alloc (.cells #[.string x.ty, .string x.id] 34))) := by show Below _ _ _; (repeat (first | assumption | exact Below.refl _ _ | apply Below.drew | apply below_drewN | (refine Below.alloc ?_ (by first | exact Nat.le_refl _ | omega | (simp; done) | (simp; omega)) _)))
  have HI := Lib.hid (ud_index xs x A c (w.alloc (.cells #[.string x.ty, .string x.id] 34)) hl (hs.later HB.out))
  have HK := Lib.hid (idxU_mem (xs := xs) (x := x))
  clear hs
  generalize idxU xs x = v at HI HK
  generalize decide (x ∈ xs) = q at HK ⊢
  go_enter Tryz.func94, Tryz.ntmps94
  go_wp2_with fail
  refine HI.out.mono ?_
  rintro r w1 ⟨rfl, hb1⟩
  go_wp2_with fail
  go_ret
  exact ⟨ret_bool HK.out, HB.out.trans (hb1.mono HB.out.size)⟩
end Go.Proofs.YtpheiojmcafolaaGreatDoor
namespace Go.Proofs.YtpheiojmcafolaaGreatDoor
set_option maxRecDepth 100000
open Go.RowKit
theorem eqn_nd (x y : Nd) (w : World) : (Op.equalIn 10000 37 (.agg #[.int .i64 x.op, .int .i64 x.n, .string x.s, .string x.t]) (.agg #[.int .i64 y.op, .int .i64 y.n, .string y.s, .string y.t])).run Tryz.prog w = .ok (decide (x = y)) w := by
  have u3 := Tryz.underlying9
  have a3 := Tryz.isAgg9
  have z3 := Tryz.sizeOf9
  have u4 := Tryz.underlying3
  have a4 := Tryz.isAgg3
  have z4 := Tryz.sizeOf3
  have hS : Tryz.prog.underlying 37 = some (.struct (Tryz.prog.fieldsOf 37)) := by kernel_rfl
  have hp : Tryz.prog.stoodInHeld 37 = false := by kernel_rfl
  rw [show (10000 : Nat) = 9999 + 1 from rfl, run_equalIn_agg w 9999 37 _ _ hS hp]
  simp only [Program.fieldsOf, Tryz.underlying37]
  go_simp
  obtain ⟨a, b, s, l⟩ := x
  obtain ⟨a', b', s', l'⟩ := y
  by_cases h0 : a = a' <;> by_cases h3 : b = b' <;> by_cases h1 : s = s' <;> by_cases h2 : l = l' <;> simp [bs_same, h0, h1, h2, h3]
theorem neq_nd (x y : Nd) (w : World) : (binOp .neq 37 (.agg #[.int .i64 x.op, .int .i64 x.n, .string x.s, .string x.t]) (.agg #[.int .i64 y.op, .int .i64 y.n, .string y.s, .string y.t])).run Tryz.prog w = .ok (.bool (!decide (x = y))) w := by
  rw [run_neq_struct, eqn_nd]; rfl
end Go.Proofs.YtpheiojmcafolaaGreatDoor
namespace Go.Proofs.YtpheiojmcafolaaGreatDoor
open Go.RowKit
def letB (c : UInt8) : Bool := letterI (c.toNat : Int)
def bsOf (l : List UInt8) : ByteArray := ⟨l.toArray⟩
end Go.Proofs.YtpheiojmcafolaaGreatDoor
namespace Go.Proofs.YtpheiojmcafolaaGreatDoor
open Go.RowKit
end Go.Proofs.YtpheiojmcafolaaGreatDoor
namespace Go.Proofs.YtpheiojmcafolaaGreatDoor
open Go.RowKit
def escB (b : UInt8) : Bool := b == 34 || b == 92
/-- The bytes that stand for one. -/
def esc1 (b : UInt8) : List UInt8 := if escB b then [92, b] else [b]
def escP (l : List UInt8) : List UInt8 := l.flatMap esc1
def escN (l : List UInt8) : Nat := l.countP escB
theorem escP_len (l : List UInt8) : (escP l).length = l.length + escN l := by
  induction l with
  | nil => rfl
  | cons b l ih =>
    simp only [escP, List.flatMap_cons, List.length_append, escN, List.countP_cons, List.length_cons] at ih ⊢
    rw [ih]
    unfold esc1
    cases h : escB b <;> simp <;> omega
theorem escP_snoc (l : List UInt8) (b : UInt8) : escP (l ++ [b]) = escP l ++ esc1 b := by simp [escP]
theorem escN_snoc (l : List UInt8) (b : UInt8) : escN (l ++ [b]) = escN l + if escB b then 1 else 0 := by
  simp [escN, List.countP_append, List.countP_cons]
theorem escN_zero (l : List UInt8) (h : escN l = 0) : escP l = l := by
  induction l with
  | nil => rfl
  | cons b l ih =>
    simp only [escN, List.countP_cons] at h ih
    have hb : escB b = false := by cases hq : escB b <;> simp [hq] at h ⊢
    show esc1 b ++ escP l = _
    rw [ih (by omega), esc1, if_neg (by simp [hb])]; rfl
theorem escN_count (l : List UInt8) : Lib.countByte l 34 + Lib.countByte l 92 = escN l := by
  unfold Lib.countByte escN
  induction l with
  | nil => rfl
  | cons b l ih =>
    simp only [List.count_cons, List.countP_cons, escB]
    by_cases h1 : b = 34
    · subst h1; simp; omega
    · by_cases h2 : b = 92
      · subst h2; simp; omega
      · simp [h1, h2]; exact ih
theorem escN_le (l : List UInt8) : escN l ≤ l.length := List.countP_le_length
theorem escB_yes (b : UInt8) : escB b = true ↔ (b.toNat = 34 ∨ b.toNat = 92) := by
  simp only [escB, Bool.or_eq_true, beq_iff_eq]
  constructor
  · rintro (h | h) <;> subst h <;> simp
  · rintro (h | h)
    · exact .inl (UInt8.toNat_inj.1 (by rw [h]; rfl))
    · exact .inr (UInt8.toNat_inj.1 (by rw [h]; rfl))
theorem escP_take (l : List UInt8) (k : Nat) : (escP (l.take k)).length ≤ l.length + escN l := by
  rw [← escP_len]
  have h : escP l = escP (l.take k) ++ escP (l.drop k) := by unfold escP; rw [← List.flatMap_append, List.take_append_drop]
  rw [h, List.length_append]; omega
/-- The bytes as cells. -/
def byC (l : List UInt8) : List Value := l.map fun b => .int .u8 (b.toNat : Int)
theorem byC_append (a b : List UInt8) : byC (a ++ b) = byC a ++ byC b := by simp [byC]
theorem byC_len (a : List UInt8) : (byC a).length = a.length := by simp [byC]
end Go.Proofs.YtpheiojmcafolaaGreatDoor
namespace Go.Proofs.YtpheiojmcafolaaGreatDoor
open Go.RowKit
/-- A text between quotes; nothing, where it is no text. -/
def quoteV (l : List UInt8) : List UInt8 := if textErr l = 0 then 34 :: (escP l ++ [34]) else []
theorem escP_bound (l : List UInt8) : (escP l).length ≤ 2 * l.length := by have := escP_len l; have := escN_le l; omega
theorem quoteV_len (l : List UInt8) : (quoteV l).length ≤ 122 := by
  unfold quoteV
  split
  · rename_i h
    unfold textErr at h
    split at h
    · cases h
    · have := escP_bound l
      simp only [List.length_cons, List.length_append, List.length_nil]; omega
  · simp
end Go.Proofs.YtpheiojmcafolaaGreatDoor
