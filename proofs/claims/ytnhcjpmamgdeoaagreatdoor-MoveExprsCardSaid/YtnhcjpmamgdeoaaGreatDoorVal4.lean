/-
  THE WALKS: the reader of a value's nodes.
-/
import Derived.Test.YtnhcjpmamgdeoaaGreatDoorValA
import Derived.Test.YtnhcjpmamgdeoaaGreatDoorP
import Derived.Test.YtnhcjpmamgdeoaaGreatDoorBase
import Derived.Deep.QuietTactic
import Derived.BigQuiet
namespace Go.Proofs.YtnhcjpmamgdeoaaGreatDoor
open Go.RowKit

def rdr (A : Option Addr) (n c i : Nat) : Array Value := #[.slice A n c, .int .i64 i]
def wrongV : List PanicEntry := [{ v := .iface 111 (.agg #[]), recovered := false }]
theorem rdr_step {w : World} {rb : Nat} {A : Option Addr} {n c i : Nat} {T : TypeId} (h : Blk w rb T (rdr A n c i)) : Blk (w.setCell ⟨rb, 1, none⟩ (.int .i64 ((i : Int) + 1))) rb T (rdr A n c (i + 1)) := h.set 1 _
theorem NdSl.only {w w' : World} {B rb : Nat} {A : Option Addr} {xs : List Nd} (h : NdSl w rb A xs) (ho : Only B rb w w') (hB : rb ≤ B) : NdSl w' rb A xs := h.keep fun p hp => ho.cell (by omega) (by omega)
theorem NdSl.piece {w : World} {B b o : Nat} {e : List Nd} (h : NdSl w B (some ⟨b, o, none⟩) e) (i j : Nat) : NdSl w B (some ⟨b, o + i * 4, none⟩) (piece e i j) := fun hne => by
  have he : e ≠ [] := by rintro rfl; simp [Proofs.YtnhcjpmamgdeoaaGreatDoor.piece] at hne
  obtain ⟨b', o', h1, hb, hc⟩ := h he
  injection h1 with h1; injection h1 with h1 h2; subst h1 h2
  refine ⟨b, o + i * 4, rfl, hb, fun k x hx => ?_⟩
  have := hc (i + k) x (by
    simp only [Proofs.YtnhcjpmamgdeoaaGreatDoor.piece, List.getElem?_take] at hx
    split at hx
    · rwa [List.getElem?_drop] at hx
    · cases hx)
  rwa [show o + i * 4 + k * 4 = o + (i + k) * 4 from by omega]
/-- What 'part' owes at one place with so much fuel. -/
def PartOk (e : List Nd) (f i : Nat) : Prop := ∀ (w : World) (rb : Nat) (A : Option Addr) (c : Nat), 2 * (e.length - i) ≤ f → i ≤ e.length → e.length ≤ c → c ≤ 9223372036854775807 → NdOk e →
  Blk w rb 114 (rdr A e.length c i) → NdSl w rb A e →
  (∀ j, vGo e f .one i = some j → Calls Tryz.prog 62 #[.pointer (some ⟨rb, 0, none⟩)] w fun r w' => ∃ A' c', r = .returned (.slice A' (piece e i j).length c') ∧ NdSl w' rb A' (piece e i j) ∧ Blk w' rb 114 (rdr A e.length c j) ∧ Only w.heap.size rb w w') ∧
  (vGo e f .one i = none → Calls Tryz.prog 62 #[.pointer (some ⟨rb, 0, none⟩)] w fun r w' => r = .panicked wrongV ∧ Only w.heap.size rb w w')

set_option maxRecDepth 100000 in
set_option maxHeartbeats 1600000 in
theorem part_out (e : List Nd) (f i : Nat) (h : e.length ≤ i) : PartOk e f i := by
  intro w rb A c hf hi hc hcm hok hblk hsl
  have hrb := hblk.lt
  have k0 : w.cell? ⟨rb, 0, none⟩ = some (.slice A e.length c) := hblk.cell 0
  have k1 : w.cell? ⟨rb, 1, none⟩ = some (.int .i64 i) := hblk.cell 1
  have z1 : w.frozen? ⟨rb, 1, none⟩ = false := hblk.frozen 1
  have HN : Hid (e[i]? = none) := List.getElem?_eq_none h
  have HB := Lib.hid hblk
  have HS := Lib.hid hsl
  clear hblk hsl
  refine ⟨fun j hj => ?_, fun hj => ?_⟩
  · have hn := HN.out
    cases f <;> simp [vGo, hn] at hj
  · clear hj
    go_enter Tryz.func62, Tryz.ntmps62
    go_wp2_with fail
    exact ⟨rfl, rfl, Only.refl _ _ _⟩

set_option maxRecDepth 100000 in
set_option maxHeartbeats 1600000 in
theorem part_bad (e : List Nd) (f i : Nat) (x : Nd) (hx : e[i]? = some x) (hsh : shapedV x = false) : PartOk e (f + 1) i := by
  intro w rb A c hf hi hc hcm hok hblk hsl
  have hrb := hblk.lt
  have k0 : w.cell? ⟨rb, 0, none⟩ = some (.slice A e.length c) := hblk.cell 0
  have k1 : w.cell? ⟨rb, 1, none⟩ = some (.int .i64 i) := hblk.cell 1
  have z1 : w.frozen? ⟨rb, 1, none⟩ = false := hblk.frozen 1
  have hil : i < e.length := (List.getElem?_eq_some_iff.1 hx).1
  obtain ⟨b, o, rfl, hb, hcs⟩ := hsl.at_ hil
  obtain ⟨d0, d1, d2, d3⟩ := hcs i x hx
  obtain ⟨hxs, hxt⟩ := hok x (List.mem_of_getElem? hx)
  have hbw : b < w.heap.size := by omega
  have HX := Lib.hid hx
  have HB := Lib.hid hblk
  have HS := Lib.hid hsl
  have HOK := Lib.hid hok
  clear hx hblk hsl hcs hok
  refine ⟨fun j hj => ?_, fun hj => ?_⟩
  · have hn := HX.out
    simp [vGo, hn, hsh] at hj
  · clear hj
    go_enter Tryz.func62, Tryz.ntmps62
    go_wp2_with (go_at_call 95; refine (val_shaped x.op x.n x.s x.t _ hxs hxt).mono ?_; rintro r w1 ⟨rfl, hb1⟩)
    exact ⟨rfl, rfl, Only.of_below hb1 (Nat.le_refl _)⟩

set_option maxRecDepth 100000 in
set_option maxHeartbeats 1600000 in
theorem part_fld (e : List Nd) (f i : Nat) (x : Nd) (hx : e[i]? = some x) (hsh : shapedV x = true) (hop : x.op = 7) : PartOk e (f + 1) i := by
  intro w rb A c hf hi hc hcm hok hblk hsl
  have hrb := hblk.lt
  have k0 : w.cell? ⟨rb, 0, none⟩ = some (.slice A e.length c) := hblk.cell 0
  have k1 : w.cell? ⟨rb, 1, none⟩ = some (.int .i64 i) := hblk.cell 1
  have z1 : w.frozen? ⟨rb, 1, none⟩ = false := hblk.frozen 1
  have hil : i < e.length := (List.getElem?_eq_some_iff.1 hx).1
  obtain ⟨b, o, rfl, hb, hcs⟩ := hsl.at_ hil
  obtain ⟨d0, d1, d2, d3⟩ := hcs i x hx
  obtain ⟨hxs, hxt⟩ := hok x (List.mem_of_getElem? hx)
  have hbw : b < w.heap.size := by omega
  have HX := Lib.hid hx
  have HB := Lib.hid hblk
  have HS := Lib.hid hsl
  have HOK := Lib.hid hok
  clear hx hblk hsl hcs hok
  refine ⟨fun j hj => ?_, fun hj => ?_⟩
  · have hn := HX.out
    simp [vGo, hn, hsh, hop] at hj
  · clear hj
    have HOP := Lib.hid hop
    have p5 : (x.op == 5) = false := by simp [hop]
    have p6 : (x.op == 6) = false := by simp [hop]
    have p7 : (x.op == 7) = true := by simp [hop]
    clear hop
    go_enter Tryz.func62, Tryz.ntmps62
    go_wp2_with (go_at_call 95; refine (val_shaped x.op x.n x.s x.t _ hxs hxt).mono ?_; rintro r w1 ⟨rfl, hb1⟩; obtain ⟨hcc, hff⟩ := bcell hb1; have g1 : rb < w1.heap.size := Nat.lt_of_lt_of_le hrb hb1.size)
    have o1 := Only.of_below (g := rb) hb1 (Nat.le_refl _)
    have hz1 := hb1.size
    exact ⟨rfl, rfl, by (repeat (first | assumption | exact Only.refl _ _ _ | apply Only.drew | apply Only.drewN | (refine Only.alloc ?_ (by first | exact Nat.le_refl _ | omega | (simp; done) | (simp; omega)) _) | (refine Only.setCell ?_ (by first | exact .inl rfl | exact .inr (Nat.le_refl _) | exact .inr (by first | omega | (simp; omega))) _)))⟩

set_option maxRecDepth 100000 in
set_option maxHeartbeats 1600000 in
theorem part_leaf (e : List Nd) (f i : Nat) (x : Nd) (hx : e[i]? = some x) (hsh : shapedV x = true) (h5 : ¬ x.op = 5) (h6 : ¬ x.op = 6) (h7 : ¬ x.op = 7) : PartOk e (f + 1) i := by
  intro w rb A c hf hi hc hcm hok hblk hsl
  have hrb := hblk.lt
  have k0 : w.cell? ⟨rb, 0, none⟩ = some (.slice A e.length c) := hblk.cell 0
  have k1 : w.cell? ⟨rb, 1, none⟩ = some (.int .i64 i) := hblk.cell 1
  have z1 : w.frozen? ⟨rb, 1, none⟩ = false := hblk.frozen 1
  have hil : i < e.length := (List.getElem?_eq_some_iff.1 hx).1
  obtain ⟨b, o, rfl, hb, hcs⟩ := hsl.at_ hil
  obtain ⟨d0, d1, d2, d3⟩ := hcs i x hx
  obtain ⟨hxs, hxt⟩ := hok x (List.mem_of_getElem? hx)
  have hbw : b < w.heap.size := by omega
  have HX := Lib.hid hx
  have HB := Lib.hid hblk
  have HS := Lib.hid hsl
  have HOK := Lib.hid hok
  clear hx hblk hsl hcs hok
  have HV : Hid (vGo e (f + 1) .one i = some (i + 1)) := by
    have hn := HX.out
    show _ = _
    simp [vGo, hn, hsh, h5, h6, h7]
  refine ⟨fun j hj => ?_, fun hj => ?_⟩
  · have hji : j = i + 1 := by rw [HV.out] at hj; injection hj with hj; exact hj.symm
    subst hji
    clear hj
    have p5 : (x.op == 5) = false := by simp [h5]
    have p6 : (x.op == 6) = false := by simp [h6]
    have p7 : (x.op == 7) = false := by simp [h7]
    go_enter Tryz.func62, Tryz.ntmps62
    go_wp2_with (go_at_call 95; refine (val_shaped x.op x.n x.s x.t _ hxs hxt).mono ?_; rintro r w1 ⟨rfl, hb1⟩; obtain ⟨hcc, hff⟩ := bcell hb1; have g1 : rb < w1.heap.size := Nat.lt_of_lt_of_le hrb hb1.size)
    go_quiet (fail)
    go_wp2
    go_ret
    have o1 := Only.of_below (g := rb) hb1 (Nat.le_refl _)
    have hz1 := hb1.size
    have o2 : Only w.heap.size rb w (((w1.setCell ⟨rb, 1, none⟩ (.int .i64 ((i : Int) + 1))).alloc (.cells #[.int .i64 x.op, .int .i64 x.n, .string x.s, .string x.t] 40))) := by (repeat (first | assumption | exact Only.refl _ _ _ | apply Only.drew | apply Only.drewN | (refine Only.alloc ?_ (by first | exact Nat.le_refl _ | omega | (simp; done) | (simp; omega)) _) | (refine Only.setCell ?_ (by first | exact .inl rfl | exact .inr (Nat.le_refl _) | exact .inr (by first | omega | (simp; omega))) _)))
    refine ⟨some ⟨b, o + i * 4, none⟩, c - i, by rw [piece_len hil, show i + 1 - i = 1 from by omega]; rfl, ?_, ?_, ?_⟩
    · exact ((HS.out.piece i (i + 1)).only (o2.drewN _) (Nat.le_of_lt hrb))
    · exact ((rdr_step (HB.out.below hb1 hrb)).alloc _).drewN _
    · exact o2.drewN _
  · have hn := HV.out
    rw [hj] at hn; cases hn
end Go.Proofs.YtnhcjpmamgdeoaaGreatDoor
