/-
  THE WALKS: tree.Skip, tree.End.
-/
import Derived.Test.YtnhcjpmamgdeoaaGreatDoorTree4
namespace Go.Proofs.YtnhcjpmamgdeoaaGreatDoor
open Go.RowKit

set_option maxHeartbeats 1600000 in
theorem tree_Skip (e : List Nd) (A : Option Addr) (c i r : Nat) (w : World) (hlen : e.length ≤ 200) (hsl : NdSl w w.heap.size A e) (hpar : ∀ x ∈ e, 0 ≤ ndParts x ∧ ndParts x ≤ 200) (hsk : skP (e.drop i) 1 i = some r) (hi : i ≤ e.length) :
    Calls Tryz.prog 88 #[.slice A e.length c, .int .i64 i] w fun q w' => q = .returned (.int .i64 r) ∧ Below w.heap.size w w' := by
  have HS := Lib.hid hsl
  have HP := Lib.hid hpar
  have HK := Lib.hid hsk
  clear hsl hpar hsk
  go_enter Tryz.func88, Tryz.ntmps88
  go_wp2_with fail
  go_loopw [1, 5] (fun at_ left wr => ∃ (a : Nat) (lf : Int), at_ = .int .i64 a ∧ left = .int .i64 lf ∧ i ≤ a ∧ a ≤ e.length ∧ 0 ≤ lf ∧ lf ≤ 1 + 200 * (a : Int) ∧ Hid (skP (e.drop a) lf a = some r) ∧ Below w.heap.size w wr)
    (fun at_ _ _ => e.length - (intOf at_).toNat)
  case atStart => exact ⟨i, 1, rfl, rfl, by omega, hi, by omega, by omega, HK, Below.refl _ _⟩
  case round =>
    obtain ⟨a, lf, rfl, rfl, hia, hal, hlf, hlb, HQ, hbr⟩ := hrel
    have hzr := hbr.size
    by_cases hpos : 0 < lf
    · have hal2 : a < e.length := by
        rcases Nat.lt_or_ge a e.length with h | h
        · exact h
        · have := HQ.out; rw [List.drop_eq_nil_of_le h] at this; simp [skP] at this; omega
      obtain ⟨b, o, rfl, hb, hcs⟩ := (HS.out.below hbr).at_ hal2
      obtain ⟨x, hx⟩ : ∃ x, e[a]? = some x := ⟨_, List.getElem?_eq_getElem hal2⟩
      obtain ⟨d0, d1, d2, d3⟩ := hcs a x hx
      obtain ⟨hp0, hp1⟩ := HP.out x (List.mem_of_getElem? hx)
      obtain ⟨p, hp⟩ : ∃ p, ndParts x = p := ⟨_, rfl⟩
      rw [hp] at hp0 hp1
      have HQ2 : Hid (skP (e.drop (a + 1)) (lf + p - 1) (a + 1) = some r) := by
        have := HQ.out; rw [skP_step hx hpos, hp] at this; exact this
      have htp : ∀ W, Calls Tryz.prog 87 #[.agg #[.int .i64 x.op, .int .i64 x.n, .string x.s, .string x.t]] W fun e w' => e = .returned (.int .i64 p) ∧ Below W.heap.size W w' := fun W => by
        rw [← hp]; exact tree_parts x.op x.n x.s x.t W
      have HTP := Lib.hid htp
      clear hcs hx htp hp
      go_wp2_with (go_at_call 87; refine (HTP.out _).mono ?_; rintro q w1 ⟨rfl, hb1⟩)
      go_roundw
      case rel => exact ⟨a + 1, lf + p - 1, by go_num, rfl, by omega, by omega, by omega, by omega, HQ2, hbr.trans (hb1.mono hbr.size)⟩
      case measure => simp [intOf]; omega
    · obtain rfl : lf = 0 := by omega
      have HE : Hid (a = r) := by have := HQ.out; rw [skP_done] at this; injection this
      go_wp2_with fail
      go_ret
      exact ⟨ret_int (by rw [HE.out]), hbr⟩
end Go.Proofs.YtnhcjpmamgdeoaaGreatDoor
