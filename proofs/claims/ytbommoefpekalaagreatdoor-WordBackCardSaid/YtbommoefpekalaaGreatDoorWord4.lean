/-
  THE WALKS: package word: quoted.
-/
import Derived.Test.YtbommoefpekalaaGreatDoorWord2
import Derived.Test.YtbommoefpekalaaGreatDoorWPlain2
import Derived.Test.YtbommoefpekalaaGreatDoorBld
import Derived.Test.YtbommoefpekalaaGreatDoorRef1
namespace Go.Proofs.YtbommoefpekalaaGreatDoor
open Go.RowKit

theorem isBuilder_far {T e : TypeId} {B b : Nat} {bs : List Value} {w : World} (h : Lib.IsBuilder T e B b bs w) {p : Addr} (hp : p.block < B) (u : Value) : Lib.IsBuilder T e B b bs (w.setCell p u) := by
  have key : ∀ q, Lib.BuilderAt T e B b q bs w → Lib.BuilderAt T e B b q bs (w.setCell p u) := fun q hq => by
    obtain ⟨hB, v, hb, hown, hne⟩ := hq
    refine ⟨hB, v, (Below.heap_setCell w p u b (by omega)).trans hb, hown.kept (row := some p.block) ⟨rfl, rfl, rfl, by simp [World.setCell], fun k _ hk => Below.heap_setCell w p u k (fun e => hk (by rw [e]))⟩ ?_, hne⟩
    cases hv : v.ownBlock with
    | none => exact .inl rfl
    | some g =>
      right
      intro h
      injection h with h
      have := (hown.lt g hv).1
      omega
  exact h.imp (key _) (key _)
theorem isBuilder_drewN {T e : TypeId} {B b : Nat} {bs : List Value} {w : World} (h : Lib.IsBuilder T e B b bs w) (n : Nat) : Lib.IsBuilder T e B b bs (w.drewN n) := h
/-- What a quoted word owes. -/
def QuoPost (s : ByteArray) (i rb : Nat) (w : World) (q : Wd) (e : Ending) (w' : World) : Prop :=
  match q with
  | .ok kind t n => e = .returned (.agg #[.int .i64 kind, .string (bsOf t), .int .i64 i]) ∧ Blk w' rb 74 (rdS s (i + n)) ∧ Only w.heap.size rb w w'
  | .bad k => e = .panicked (faultV k i) ∧ Only w.heap.size rb w w'
theorem QuoPost.bad {s : ByteArray} {i rb : Nat} {w : World} {q : Wd} {e : Ending} {w' : World} {k : Int} (hq : q = .bad k) (he : e = .panicked (faultV k i)) (ho : Only w.heap.size rb w w') : QuoPost s i rb w q e w' := by subst hq; exact ⟨he, ho⟩
theorem QuoPost.ok {s : ByteArray} {i rb : Nat} {w : World} {q : Wd} {e : Ending} {w' : World} {kind : Int} {t : List UInt8} {n : Nat} (hq : q = .ok kind t n) (he : e = .returned (.agg #[.int .i64 kind, .string (bsOf t), .int .i64 i]))
    (hb : Blk w' rb 74 (rdS s (i + n))) (ho : Only w.heap.size rb w w') : QuoPost s i rb w q e w' := by subst hq; exact ⟨he, hb, ho⟩
theorem drop_noneW (s : ByteArray) (k : Nat) (h : s.size ≤ k) : s.toList.drop k = [] := List.drop_eq_nil_of_le (by rw [toList_len]; exact h)
theorem beq_lit {c d : UInt8} (h : c = d) : ((c.toNat : Int) == (d.toNat : Int)) = true := by rw [h]; simp
theorem bne_lit {c d : UInt8} (h : ¬ c = d) : ((c.toNat : Int) == (d.toNat : Int)) = false := by
  simp only [beq_eq_false_iff_ne, ne_eq]
  intro hh
  exact h (UInt8.toNat_inj.1 (by omega))

theorem bne_lit2 {c d : UInt8} (h : ¬ c = d) : ((c.toNat : Int) != (d.toNat : Int)) = true := by rw [bne, bne_lit h]; rfl
/-- The reader at p, the result's cell, the builder that holds acc. -/
structure QInv (s : ByteArray) (rb : Nat) (w : World) (acc : List UInt8) (p : Nat) (W : World) : Prop where
  bu : Lib.IsBuilder 106 5 (w.heap.size + 1) (w.heap.size + 1) (Lib.byteCells acc) W
  rd : Blk W rb 74 (rdS s p)
  tk : Blk W w.heap.size 28 #[.int .i64 0, .string ⟨#[]⟩, .int .i64 0]
  on : Only w.heap.size rb w W
theorem QInv.drewN {s : ByteArray} {rb : Nat} {w : World} {acc : List UInt8} {p : Nat} {W : World} (h : QInv s rb w acc p W) (n : Nat) : QInv s rb w acc p (W.drewN n) := ⟨h.bu, h.rd, h.tk, h.on.drewN n⟩
theorem QInv.step {s : ByteArray} {rb : Nat} {w : World} {acc : List UInt8} {p : Nat} {W : World} (h : QInv s rb w acc p W) (hrb : rb < w.heap.size) (j : Nat) : QInv s rb w acc j (W.setCell ⟨rb, 1, none⟩ (.int .i64 (j : Int))) :=
  ⟨isBuilder_far h.bu (show rb < w.heap.size + 1 by omega) _, rdS_step h.rd, h.tk.far (show w.heap.size ≠ rb by omega) _, h.on.setCell (.inl rfl) _⟩
theorem QInv.wrote {s : ByteArray} {rb : Nat} {w : World} {acc : List UInt8} {p : Nat} {W W' : World} (h : QInv s rb w acc p W) (hrb : rb < w.heap.size) {c : UInt8}
    (hb : Lib.BuilderAt 106 5 (w.heap.size + 1) (w.heap.size + 1) (.pointer (some ⟨w.heap.size + 1, 0, none⟩)) (Lib.byteCells acc ++ [.int .u8 (c.toNat : Int)]) W') (hW : Below (w.heap.size + 1) W W') : QInv s rb w (acc ++ [c]) p W' :=
  ⟨.inr (by rw [Lib.byteCells_append]; exact hb), h.rd.below hW (by omega), h.tk.below hW (by omega), h.on.trans (Only.of_below hW (by omega))⟩
theorem QInv.size {s : ByteArray} {rb : Nat} {w : World} {acc : List UInt8} {p : Nat} {W : World} (h : QInv s rb w acc p W) : w.heap.size + 1 ≤ W.heap.size := h.tk.lt

set_option maxRecDepth 100000 in
set_option maxHeartbeats 6400000 in
theorem word_quoted (s : ByteArray) (i rb : Nat) (w : World) (hs : s.size ≤ 140737488351232) (hi : i < s.size) (hb : Blk w rb 74 (rdS s i)) :
    Calls Tryz.prog 63 #[.pointer (some ⟨rb, 0, none⟩)] w (QuoPost s i rb w (quoP (s.toList.drop (i + 1)) [] 1)) := by
  have hrb := hb.lt
  have k0 : w.cell? ⟨rb, 0, none⟩ = some (.string s) := hb.cell 0
  have k1 : w.cell? ⟨rb, 1, none⟩ = some (.int .i64 i) := hb.cell 1
  have z1 : w.frozen? ⟨rb, 1, none⟩ = false := hb.frozen 1
  have HB := Lib.hid hb
  obtain ⟨q, hq⟩ : ∃ q, quoP (s.toList.drop (i + 1)) [] 1 = q := ⟨_, rfl⟩
  rw [hq]
  have HQ := Lib.hid hq
  clear hb hq
  go_enter Tryz.func63, Tryz.ntmps63
  go_wp2_with fail
  go_loopg [5] (s.size + 1) (fun gg cc wr => ∃ p : Nat, ∃ acc : List UInt8, i + 1 ≤ p ∧ p ≤ s.size ∧ acc.length ≤ p ∧ s.size + 1 - p ≤ gg ∧ Hid (quoP (s.toList.drop p) acc (p - i) = q) ∧ Hid (QInv s rb w acc p wr))
  case atStart =>
    refine ⟨i + 1, [], Nat.le_refl _, by omega, by simp, by omega, by show _ = _; rw [show i + 1 - i = 1 from by omega]; exact HQ.out, ?_⟩
    show QInv _ _ _ _ _ _
    refine ⟨?_, ((rdS_step HB.out).alloc _).alloc _, ?_, (((Only.refl w.heap.size rb w).setCell (.inl rfl) _).alloc (by simp [World.setCell]) _).alloc (by simp [World.setCell]) _⟩
    · have := Lib.fresh_isBuilder 106 5 ((w.setCell ⟨rb, 1, none⟩ (.int .i64 ((i : Int) + 1))).alloc (.cells #[.int .i64 0, .string ⟨#[]⟩, .int .i64 0] 28))
      rwa [World.size_alloc, show (w.setCell ⟨rb, 1, none⟩ (.int .i64 ((i : Int) + 1))).heap.size = w.heap.size from by simp [World.setCell]] at this
    · have h := (Blk.new (w.setCell ⟨rb, 1, none⟩ (.int .i64 ((i : Int) + 1))) 28 #[.int .i64 0, .string ⟨#[]⟩, .int .i64 0]).alloc (.cells #[.pointer none, .slice none 0 0] 106)
      rwa [show (w.setCell ⟨rb, 1, none⟩ (.int .i64 ((i : Int) + 1))).heap.size = w.heap.size from by simp [World.setCell]] at h
  case round =>
    obtain ⟨p, acc, hip, hp, hacc, hgg, HP, HI⟩ := hrel
    have hrbw : rb < wr.heap.size := HI.out.rd.lt
    have c0 : wr.cell? ⟨rb, 0, none⟩ = some (.string s) := HI.out.rd.cell 0
    have c1 : wr.cell? ⟨rb, 1, none⟩ = some (.int .i64 p) := HI.out.rd.cell 1
    have y1 : wr.frozen? ⟨rb, 1, none⟩ = false := HI.out.rd.frozen 1
    clear k0 k1 z1
    by_cases hlt : p < s.size
    · have HD := Lib.hid (toList_drop s p hlt)
      rw [HD.out, quoP_cons] at HP
      have hd : decide ((s.size : Int) ≤ (p : Int)) = false := by simp; omega
      by_cases h34 : s[p] = 34
      · have t34 : ((s[p].toNat : Int) == 34) = true := beq_lit h34
        rw [if_pos h34] at HP
        clear h34
        by_cases h60 : 60 < acc.length
        · have HP2 : Hid (q = .bad 4) := by show _ = _; rw [← HP.out, if_pos h60]
          clear HP
          go_wp2_with fail
          go_quiet (fail)
          go_wp2_with fail
          go_quiet (fail)
          go_wp2_with fail
          generalize hw1 : (wr.drewN _).setCell ⟨rb, 1, none⟩ (.int .i64 ((p : Int) + 1)) = w1
          have hI1 : QInv s rb w acc (p + 1) w1 := by rw [← hw1]; exact (HI.out.drewN _).step hrb (p + 1)
          have hL := Tryz.Builder_Len (w.heap.size + 1) (w.heap.size + 1) (Lib.byteCells acc) _ hI1.bu
          rw [Lib.byteCells_length] at hL
          clear hw1
          refine Calls.mono hL ?_
          rintro r w2 ⟨rfl, rfl⟩
          go_wp2_with fail
          exact ⟨rfl, QuoPost.bad HP2.out rfl hI1.on⟩
        · have HP2 : Hid (q = .ok 3 acc (p - i + 1)) := by show _ = _; rw [← HP.out, if_neg h60]
          clear HP
          go_wp2_with fail
          go_quiet (fail)
          go_wp2_with fail
          go_quiet (fail)
          go_wp2_with fail
          generalize hw1 : (wr.drewN _).setCell ⟨rb, 1, none⟩ (.int .i64 ((p : Int) + 1)) = w1
          have hI1 : QInv s rb w acc (p + 1) w1 := by rw [← hw1]; exact (HI.out.drewN _).step hrb (p + 1)
          have hL := Tryz.Builder_Len (w.heap.size + 1) (w.heap.size + 1) (Lib.byteCells acc) _ hI1.bu
          have HST := Lib.hid (Tryz.Builder_String_any (w.heap.size + 1) (w.heap.size + 1) acc _ hI1.bu hI1.size)
          rw [Lib.byteCells_length] at hL
          have HI1 := Lib.hid hI1
          clear hw1 hI1 c0 c1 y1
          refine Calls.mono hL ?_
          rintro r w2 ⟨rfl, rfl⟩
          go_wp2_with fail
          refine Calls.mono HST.out ?_
          rintro r w3 ⟨rfl, hb3⟩
          have HT3 := Lib.hid (HI1.out.tk.below hb3 (by omega))
          have hk3 := HT3.out.cell
          have hz3 := HT3.out.frozen
          have hlt3 := HT3.out.lt
          go_wp2_with fail
          have hne2 : rb ≠ w.heap.size := by omega
          have hb4 : Blk w3 rb 74 (rdS s (p + 1)) := HI1.out.rd.below hb3 (by omega)
          have ho4 : Only w.heap.size rb w w3 := HI1.out.on.trans (Only.of_below hb3 (by omega))
          refine bodyPost_ret (v := .agg #[.int .i64 3, .string ⟨acc.toArray⟩, .int .i64 i]) (by simp [results, Tryz.results63, go_sem, hk3]) rfl ?_
          refine QuoPost.ok HP2.out rfl ?_ (by (repeat (first | assumption | exact Only.refl _ _ _ | apply Only.drew | apply Only.drewN | (refine Only.alloc ?_ (by first | exact Nat.le_refl _ | omega | (simp; done) | (simp; omega)) _) | (refine Only.setCell ?_ (by first | exact .inl rfl | exact .inr (Nat.le_refl _) | exact .inr (by first | omega | (simp; omega))) _))))
          rw [show i + (p - i + 1) = p + 1 from by omega]
          exact ((hb4.far hne2 _).far hne2 _).far hne2 _
      · have t34 : ((s[p].toNat : Int) == 34) = false := bne_lit h34
        rw [if_neg h34] at HP
        clear h34
        by_cases h92 : s[p] = 92
        · have t92 : ((s[p].toNat : Int) == 92) = true := beq_lit h92
          rw [if_pos h92] at HP
          clear h92
          by_cases hlt1 : p + 1 < s.size
          · rw [toList_drop s (p + 1) hlt1] at HP
            have hd1 : decide ((s.size : Int) ≤ (p : Int) + 1) = false := by simp; omega
            have hix : ∀ W, (Instr.index 9 (.string s) (.int .i64 ((p : Int) + 1))).run Tryz.prog W = .ok (.int .u8 (s[p + 1].toNat : Int)) W := run_index_str s (p + 1) hlt1
            by_cases hq2 : s[p + 1] = 34 ∨ s[p + 1] = 92
            · have HP2 : Hid (quoP (s.toList.drop (p + 2)) (acc ++ [s[p + 1]]) (p + 2 - i) = q) := by
                show _ = _; rw [← HP.out]; simp only; rw [if_pos hq2, show p + 2 - i = p - i + 2 from by omega]
              clear HP
              have hlo : ¬ (s[p + 1].toNat : Int) < 32 := by rcases hq2 with h | h <;> rw [h] <;> decide
              have hhi : ¬ 126 < (s[p + 1].toNat : Int) := by rcases hq2 with h | h <;> rw [h] <;> decide
              go_wp2_with fail
              go_quiet (fail)
              go_wp2_with fail
              go_quiet (fail)
              go_wp2_with fail
              generalize hw1 : (wr.drewN _).setCell ⟨rb, 1, none⟩ (.int .i64 ((p : Int) + 1)) = w1
              have hI1 : QInv s rb w acc (p + 1) w1 := by rw [← hw1]; exact (HI.out.drewN _).step hrb (p + 1)
              have HI1 := Lib.hid hI1
              clear hw1 hI1 c0 c1 y1
              have c0 : w1.cell? ⟨rb, 0, none⟩ = some (.string s) := HI1.out.rd.cell 0
              have c1 : w1.cell? ⟨rb, 1, none⟩ = some (.int .i64 ((p : Int) + 1)) := HI1.out.rd.cell 1
              have y1 : w1.frozen? ⟨rb, 1, none⟩ = false := HI1.out.rd.frozen 1
              have hlt2 := HI1.out.rd.lt
              rcases hq2 with hq2 | hq2
              · have e34 : ((s[p + 1].toNat : Int) != 34) = false := by rw [hq2]; rfl
                clear hq2
                go_quiet (fail)
                go_wp2_with fail
                go_quiet (fail)
                go_wp2_with fail
                generalize hw2 : w1.drewN _ = w2
                have hI2 : QInv s rb w acc (p + 1) w2 := by rw [← hw2]; exact HI1.out.drewN _
                have HI2 := Lib.hid hI2
                clear hw2 hI2 c0 c1 y1
                refine Calls.mono (bld_WriteByte (w.heap.size + 1) (w.heap.size + 1) (Lib.byteCells acc) (s[p + 1].toNat : Int) _ HI2.out.bu (by rw [Lib.byteCells_length]; omega) HI2.out.size) ?_
                rintro r w3 ⟨rfl, hbd2, hb2⟩
                have HI3 := Lib.hid (HI2.out.wrote hrb hbd2 hb2)
                have c0 : w3.cell? ⟨rb, 0, none⟩ = some (.string s) := HI3.out.rd.cell 0
                have c1 : w3.cell? ⟨rb, 1, none⟩ = some (.int .i64 ((p + 1 : Nat) : Int)) := HI3.out.rd.cell 1
                have y1 : w3.frozen? ⟨rb, 1, none⟩ = false := HI3.out.rd.frozen 1
                have hlt3 := HI3.out.rd.lt
                clear hbd2 hb2 HI2 hix
                go_wp2_with fail
                go_roundg (s.size + 1 - (p + 2))
                case measure => omega
                case rel => exact ⟨p + 2, acc ++ [s[p + 1]], by omega, by omega, by rw [List.length_append, List.length_singleton]; omega, by omega, HP2, HI3.out.step hrb (p + 2)⟩
              · have e34 : ((s[p + 1].toNat : Int) != 34) = true := by rw [hq2]; rfl
                have e92 : ((s[p + 1].toNat : Int) != 92) = false := by rw [hq2]; rfl
                clear hq2
                go_quiet (fail)
                go_wp2_with fail
                go_quiet (fail)
                go_wp2_with fail
                generalize hw2 : w1.drewN _ = w2
                have hI2 : QInv s rb w acc (p + 1) w2 := by rw [← hw2]; exact HI1.out.drewN _
                have HI2 := Lib.hid hI2
                clear hw2 hI2 c0 c1 y1
                refine Calls.mono (bld_WriteByte (w.heap.size + 1) (w.heap.size + 1) (Lib.byteCells acc) (s[p + 1].toNat : Int) _ HI2.out.bu (by rw [Lib.byteCells_length]; omega) HI2.out.size) ?_
                rintro r w3 ⟨rfl, hbd2, hb2⟩
                have HI3 := Lib.hid (HI2.out.wrote hrb hbd2 hb2)
                have c0 : w3.cell? ⟨rb, 0, none⟩ = some (.string s) := HI3.out.rd.cell 0
                have c1 : w3.cell? ⟨rb, 1, none⟩ = some (.int .i64 ((p + 1 : Nat) : Int)) := HI3.out.rd.cell 1
                have y1 : w3.frozen? ⟨rb, 1, none⟩ = false := HI3.out.rd.frozen 1
                have hlt3 := HI3.out.rd.lt
                clear hbd2 hb2 HI2 hix
                go_wp2_with fail
                go_roundg (s.size + 1 - (p + 2))
                case measure => omega
                case rel => exact ⟨p + 2, acc ++ [s[p + 1]], by omega, by omega, by rw [List.length_append, List.length_singleton]; omega, by omega, HP2, HI3.out.step hrb (p + 2)⟩
            · have HP2 : Hid (q = .bad 1) := by show _ = _; rw [← HP.out]; simp only; rw [if_neg hq2]
              have e34 : ((s[p + 1].toNat : Int) != 34) = true := bne_lit2 (d := 34) (fun h => hq2 (.inl h))
              have e92 : ((s[p + 1].toNat : Int) != 92) = true := bne_lit2 (d := 92) (fun h => hq2 (.inr h))
              clear HP hq2
              go_wp2_with fail
              go_quiet (fail)
              go_wp2_with fail
              go_quiet (fail)
              go_wp2_with fail
              generalize hw1 : (wr.drewN _).setCell ⟨rb, 1, none⟩ (.int .i64 ((p : Int) + 1)) = w1
              have hI1 : QInv s rb w acc (p + 1) w1 := by rw [← hw1]; exact (HI.out.drewN _).step hrb (p + 1)
              have HI1 := Lib.hid hI1
              clear hw1 hI1 c0 c1 y1
              have c0 : w1.cell? ⟨rb, 0, none⟩ = some (.string s) := HI1.out.rd.cell 0
              have c1 : w1.cell? ⟨rb, 1, none⟩ = some (.int .i64 ((p : Int) + 1)) := HI1.out.rd.cell 1
              go_quiet (fail)
              go_wp2_with fail
              exact ⟨rfl, QuoPost.bad HP2.out rfl (by have := HI1.out.on; (repeat (first | assumption | exact Only.refl _ _ _ | apply Only.drew | apply Only.drewN | (refine Only.alloc ?_ (by first | exact Nat.le_refl _ | omega | (simp; done) | (simp; omega)) _) | (refine Only.setCell ?_ (by first | exact .inl rfl | exact .inr (Nat.le_refl _) | exact .inr (by first | omega | (simp; omega))) _))))⟩
          · have HP2 : Hid (q = .bad 1) := by show _ = _; rw [← HP.out, drop_noneW s (p + 1) (by omega)]
            have hd1 : decide ((s.size : Int) ≤ (p : Int) + 1) = true := by simp; omega
            clear HP
            go_wp2_with fail
            go_quiet (fail)
            go_wp2_with fail
            go_quiet (fail)
            go_wp2_with fail
            generalize hw1 : (wr.drewN _).setCell ⟨rb, 1, none⟩ (.int .i64 ((p : Int) + 1)) = w1
            have hI1 : QInv s rb w acc (p + 1) w1 := by rw [← hw1]; exact (HI.out.drewN _).step hrb (p + 1)
            have HI1 := Lib.hid hI1
            clear hw1 hI1 c0 c1 y1
            have c0 : w1.cell? ⟨rb, 0, none⟩ = some (.string s) := HI1.out.rd.cell 0
            have c1 : w1.cell? ⟨rb, 1, none⟩ = some (.int .i64 ((p : Int) + 1)) := HI1.out.rd.cell 1
            go_quiet (fail)
            go_wp2_with fail
            exact ⟨rfl, QuoPost.bad HP2.out rfl (by have := HI1.out.on; (repeat (first | assumption | exact Only.refl _ _ _ | apply Only.drew | apply Only.drewN | (refine Only.alloc ?_ (by first | exact Nat.le_refl _ | omega | (simp; done) | (simp; omega)) _) | (refine Only.setCell ?_ (by first | exact .inl rfl | exact .inr (Nat.le_refl _) | exact .inr (by first | omega | (simp; omega))) _))))⟩
        · have t92 : ((s[p].toNat : Int) == 92) = false := bne_lit h92
          rw [if_neg h92] at HP
          clear h92
          by_cases hlo : (s[p].toNat : Int) < 32
          · have HP2 : Hid (q = .bad 1) := by show _ = _; rw [← HP.out, if_neg (by simp [plainB]; omega)]
            clear HP
            go_wp2_with fail
            go_quiet (fail)
            go_wp2_with fail
            go_quiet (fail)
            go_wp2_with fail
            exact ⟨rfl, QuoPost.bad HP2.out rfl (by have := HI.out.on; (repeat (first | assumption | exact Only.refl _ _ _ | apply Only.drew | apply Only.drewN | (refine Only.alloc ?_ (by first | exact Nat.le_refl _ | omega | (simp; done) | (simp; omega)) _) | (refine Only.setCell ?_ (by first | exact .inl rfl | exact .inr (Nat.le_refl _) | exact .inr (by first | omega | (simp; omega))) _))))⟩
          · by_cases hhi : 126 < (s[p].toNat : Int)
            · have HP2 : Hid (q = .bad 1) := by show _ = _; rw [← HP.out, if_neg (by simp [plainB]; omega)]
              clear HP
              go_wp2_with fail
              go_quiet (fail)
              go_wp2_with fail
              go_quiet (fail)
              go_wp2_with fail
              exact ⟨rfl, QuoPost.bad HP2.out rfl (by have := HI.out.on; (repeat (first | assumption | exact Only.refl _ _ _ | apply Only.drew | apply Only.drewN | (refine Only.alloc ?_ (by first | exact Nat.le_refl _ | omega | (simp; done) | (simp; omega)) _) | (refine Only.setCell ?_ (by first | exact .inl rfl | exact .inr (Nat.le_refl _) | exact .inr (by first | omega | (simp; omega))) _))))⟩
            · have HP2 : Hid (quoP (s.toList.drop (p + 1)) (acc ++ [s[p]]) (p + 1 - i) = q) := by
                show _ = _; rw [← HP.out, if_pos (by simp [plainB]; omega), show p + 1 - i = p - i + 1 from by omega]
              clear HP
              go_wp2_with fail
              go_quiet (fail)
              go_wp2_with fail
              go_quiet (fail)
              go_wp2_with fail
              generalize hw1 : wr.drewN _ = w1
              have hI1 : QInv s rb w acc p w1 := by rw [← hw1]; exact HI.out.drewN _
              have HI1 := Lib.hid hI1
              clear hw1 hI1 c0 c1 y1
              refine Calls.mono (bld_WriteByte (w.heap.size + 1) (w.heap.size + 1) (Lib.byteCells acc) (s[p].toNat : Int) _ HI1.out.bu (by rw [Lib.byteCells_length]; omega) HI1.out.size) ?_
              rintro r w2 ⟨rfl, hbd2, hb2⟩
              have HI2 := Lib.hid (HI1.out.wrote hrb hbd2 hb2)
              have c0 : w2.cell? ⟨rb, 0, none⟩ = some (.string s) := HI2.out.rd.cell 0
              have c1 : w2.cell? ⟨rb, 1, none⟩ = some (.int .i64 p) := HI2.out.rd.cell 1
              have y1 : w2.frozen? ⟨rb, 1, none⟩ = false := HI2.out.rd.frozen 1
              have hlt2 := HI2.out.rd.lt
              clear hbd2 hb2 HI1
              go_wp2_with fail
              go_roundg (s.size + 1 - (p + 1))
              case measure => omega
              case rel => exact ⟨p + 1, acc ++ [s[p]], by omega, by omega, by rw [List.length_append, List.length_singleton]; omega, by omega, HP2, HI2.out.step hrb (p + 1)⟩
    · have HP2 : Hid (q = .bad 1) := by show _ = _; rw [← HP.out, drop_noneW s p (by omega)]; rfl
      have hd : decide ((s.size : Int) ≤ (p : Int)) = true := by simp; omega
      clear HP
      go_wp2_with fail
      go_quiet (fail)
      go_wp2_with fail
      exact ⟨rfl, QuoPost.bad HP2.out rfl (by have := HI.out.on; (repeat (first | assumption | exact Only.refl _ _ _ | apply Only.drew | apply Only.drewN | (refine Only.alloc ?_ (by first | exact Nat.le_refl _ | omega | (simp; done) | (simp; omega)) _) | (refine Only.setCell ?_ (by first | exact .inl rfl | exact .inr (Nat.le_refl _) | exact .inr (by first | omega | (simp; omega))) _))))⟩
end Go.Proofs.YtbommoefpekalaaGreatDoor
