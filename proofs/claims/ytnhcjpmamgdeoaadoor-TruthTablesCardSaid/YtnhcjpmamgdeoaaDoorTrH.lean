/-
  WHAT A DIAGRAM IS IN MEMORY: its cells, and the map of their places.
-/
import Derived.Test.YtnhcjpmamgdeoaaDoorTrD2
import Derived.Test.YtnhcjpmamgdeoaaDoorTrG
import Derived.DeepKeys5
import Derived.Maps.OwnSet
import Derived.Maps.Views
import Derived.Deep.AppendLies
namespace Go.Proofs.YtnhcjpmamgdeoaaDoor
set_option maxRecDepth 100000
open Go.RowKit Go.Sort Go.Maps

def ceC (c : Ce) : List Value := [.int .i64 c.atom, .int .i64 c.low, .int .i64 c.high]
theorem ceC_ok : EncOk ceC 3 := ⟨fun _ => rfl, by omega, fun x u hu => by
  simp only [ceC, List.mem_cons, List.not_mem_nil, or_false] at hu
  rcases hu with rfl | rfl | rfl <;> rfl⟩
abbrev CeSl := SlG ceC 3
theorem ce_info : (Tryd.prog.info? 51).map (fun i => (i.zero, i.size, i.bytes)) = some (some (.agg #[.int .i64 0, .int .i64 0, .int .i64 0]), 3, 24) := by kernel_rfl
theorem ce_size : 1 ≤ Tryd.prog.types.size := of_decide_eq_true (by kernel_rfl)
def ceV (c : Ce) : Value := .agg #[.int .i64 c.atom, .int .i64 c.low, .int .i64 c.high]
theorem ce_deep : Tryd.prog.keyType 51 = true := by kernel_rfl
theorem ce_cells : Tryd.prog.cellsOf 51 = 3 := by kernel_rfl
theorem int_cells : Tryd.prog.cellsOf 3 = 1 := by kernel_rfl
theorem ce_laid : laidOutB Tryd.prog = true := by kernel_rfl
theorem ce_wide : (match Tryd.prog.underlying 51 with | some (.array _ _) | some (.struct _) => true | _ => false) = true := by rw [Tryd.underlying51]
theorem ce_law : Maps.Keyed Tryd.prog 51 := Maps.Keyed.of_law (deep_law_gate ce_laid (of_decide_eq_true (by kernel_rfl)) (of_decide_eq_true (by kernel_rfl)) ce_deep ce_wide)
structure CeSm (c : Ce) : Prop where
  lo : -9223372036854775808 ≤ c.atom
  hi : c.atom ≤ 9223372036854775807
  low : c.low ≤ 9223372036854775807
  high : c.high ≤ 9223372036854775807
theorem lits_int {P : Program} {d t : Nat} {n : Int} (hu : P.underlying t = some (.int .i64)) (hl : -9223372036854775808 ≤ n) (hh : n ≤ 9223372036854775807) : P.keyLits (d + 1) t [.int .i64 n] = some [.int .i64 n] := by
  have hw : (Lit.int .i64 n).wf = true := by simp [Lit.wf, IntKind.min, IntKind.max, IntKind.signed, IntKind.bits]; omega
  simp [Program.keyLits, hu, hw]
theorem ce_keyed {c : Ce} (h : CeSm c) : ∃ l, keyOf Tryd.prog 51 (ceV c) = some l := by
  obtain ⟨m, hm⟩ : ∃ m, Tryd.prog.types.size + 1 = m + 1 + 1 := ⟨Tryd.prog.types.size - 1, by have := ce_size; omega⟩
  have f : (ceV c).formed Tryd.prog 51 = true := by simp [ceV, Value.formed, Tryd.underlying51, ce_cells]
  obtain ⟨h1, h2, h3, h4⟩ := h
  have e1 := lits_int (P := Tryd.prog) (d := m) (t := 3) Tryd.underlying3 h1 h2
  have e2 := lits_int (P := Tryd.prog) (d := m) (t := 3) (n := c.low) Tryd.underlying3 (by omega) (by omega)
  have e3 := lits_int (P := Tryd.prog) (d := m) (t := 3) (n := c.high) Tryd.underlying3 (by omega) (by omega)
  unfold keyOf
  rw [Tryd.underlying51]
  simp only [ce_deep, f, Bool.and_self, if_true, hm]
  unfold Program.keyLits
  rw [Tryd.underlying51]
  simp [ce_cells, int_cells, ceV, Value.cells, e1, e2, e3]
noncomputable def ceK (c : Ce) : Lit := (keyOf Tryd.prog 51 (ceV c)).getD (.bool true)
theorem ceK_eq {c : Ce} (h : CeSm c) : keyOf Tryd.prog 51 (ceV c) = some (ceK c) := by
  obtain ⟨l, hl⟩ := ce_keyed h
  unfold ceK; rw [hl]; rfl
theorem ceK_ne {c d : Ce} (hc : CeSm c) (hd : CeSm d) (h : c ≠ d) : ceK c ≠ ceK d := by
  intro e
  have h1 := ceK_eq hc
  have h2 := ceK_eq hd
  rw [← e] at h2
  have := ce_law.inj h1 h2
  apply h
  cases c; cases d
  simp [ceV] at this
  obtain ⟨rfl, a2, a3⟩ := this
  congr <;> omega

abbrev WD := DataW Unit
/-- The map tells the place of each cell behind the first two. -/
def MapOk (cs : List Ce) (D : WD) : Prop := ∀ c, CeSm c → Maps.has D (ceK c) = decide (c ∈ cs.drop 2) ∧ (c ∈ cs.drop 2 → ∀ z, D.atKey (ceK c) z = .lit (.int .i64 ((cs.drop 2).idxOf c + 2 : Nat)))
theorem mapOk_base : MapOk ceBase (.map [] : WD) := fun c _ => ⟨by simp [Maps.has, ceBase], fun h => by simp [ceBase] at h⟩
theorem mapOk_put {cs : List Ce} {D : WD} (h : MapOk cs D) (hD : Maps.IsMap D) (h2 : 2 ≤ cs.length) {c : Ce} (hc : CeSm c) (hn : c ∉ cs.drop 2) : MapOk (cs ++ [c]) (D.put (ceK c) (.lit (.int .i64 (cs.length : Nat)))) := by
  intro d hd
  rw [List.drop_append_of_le_length h2]
  by_cases e : d = c
  · subst e
    rw [has_put_same hD (ce_law.key (ceK_eq hd))]
    refine ⟨by simp, fun _ z => ?_⟩
    rw [atKey_put_same hD (ce_law.key (ceK_eq hd))]
    have hx : (List.drop 2 cs ++ [d]).idxOf d = cs.length - 2 := by
      rw [List.idxOf_append, if_neg hn]; simp
    rw [hx, show cs.length - 2 + 2 = cs.length from by omega]
  · have hk := ceK_ne hd hc e
    rw [has_put_other hk]
    refine ⟨by rw [(h d hd).1]; simp [e], fun hm z => ?_⟩
    have hm' : d ∈ cs.drop 2 := by
      rcases List.mem_append.1 hm with h | h
      · exact h
      · simp at h; exact absurd h e
    rw [atKey_put_other hk, (h d hd).2 hm' z, List.idxOf_append, if_pos hm']

/-- A diagram. -/
structure DiaX (base db : Nat) (cs : List Ce) (g cap mb : Nat) (D : WD) (w : World) : Prop where
  c0 : w.cell? ⟨db, 0, none⟩ = some (.slice (some ⟨g, 0, none⟩) cs.length cap)
  c1 : w.cell? ⟨db, 1, none⟩ = some (.map (some mb))
  f0 : Blk w db 59 #[.slice (some ⟨g, 0, none⟩) cs.length cap, .map (some mb)]
  row : w.ownsRow base 51 3 (.slice (some ⟨g, 0, none⟩) cs.length cap) cs.length (flatG ceC cs)
  map : w.ownsMap Tryd.prog 51 (plainElem (H := Unit) Tryd.prog 3) mb cs.length D
  ok : MapOk cs D
  dbge : base ≤ db
  mbge : base ≤ mb
  dg : db ≠ g
  mg : mb ≠ g
  md : mb ≠ db
def DiaAt (base db : Nat) (cs : List Ce) (w : World) : Prop := ∃ g cap mb D, DiaX base db cs g cap mb D w
theorem DiaX.lt {base db : Nat} {cs : List Ce} {g cap mb : Nat} {D : WD} {w : World} (h : DiaX base db cs g cap mb D w) : db < w.heap.size ∧ mb < w.heap.size ∧ base ≤ g ∧ g < w.heap.size ∧ base ≤ w.heap.size := by
  have h1 := h.f0.lt
  have h2 := h.map.lt
  have h3 := h.row.lt g rfl
  have := h.dbge
  exact ⟨h1, h2, h3.1, h3.2, by omega⟩
theorem DiaX.later {base db : Nat} {cs : List Ce} {g cap mb : Nat} {D : WD} {w w' : World} (h : DiaX base db cs g cap mb D w) (hb : RowKit.Below w.heap.size w w') : DiaX base db cs g cap mb D w' :=
  ⟨(hb.cell (p := ⟨db, 0, none⟩) h.lt.1).trans h.c0, (hb.cell (p := ⟨db, 1, none⟩) h.lt.1).trans h.c1, (hb.block _ h.lt.1).trans h.f0, own_keep h.row hb,
    h.map.kept (row := none) ⟨hb.os, hb.tape, hb.output, hb.size, fun k hk _ => hb.block k hk⟩ (by simp), h.ok, h.dbge, h.mbge, h.dg, h.mg, h.md⟩
end Go.Proofs.YtnhcjpmamgdeoaaDoor
