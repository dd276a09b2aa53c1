/-
  THE WALKS: word.spelt.
-/
import Derived.Test.YtbommoefpekalaaGreatDoorWord8
import Derived.Test.YtbommoefpekalaaGreatDoorQuote5
import Derived.Laws.StructEq
namespace Go.Proofs.YtbommoefpekalaaGreatDoor
open Go.RowKit

theorem eql_tok (x y : Tk) (w : World) : (binOp .eql 28 (.agg #[.int .i64 x.kind, .string x.s, .int .i64 x.at_]) (.agg #[.int .i64 y.kind, .string y.s, .int .i64 y.at_])).run Tryz.prog w = .ok (.bool (tkEq x y)) w := by
  have u3 := Tryz.underlying3
  have us := Tryz.underlying9
  have a3 := Tryz.isAgg3
  have z3 := Tryz.sizeOf3
  have as1 := Tryz.isAgg9
  have zs1 := Tryz.sizeOf9
  have hS : Tryz.prog.underlying 28 = some (.struct (Tryz.prog.fieldsOf 28)) := by kernel_rfl
  have hp : Tryz.prog.stoodInHeld 28 = false := by kernel_rfl
  rw [run_eql_struct, show (10000 : Nat) = 9999 + 1 from rfl, run_equalIn_agg w 9999 28 _ _ hS hp]
  simp only [Program.fieldsOf, Tryz.underlying28]
  go_simp
  by_cases h1 : x.kind = y.kind <;> by_cases h2 : x.s.toList = y.s.toList <;> by_cases h3 : x.at_ = y.at_ <;> simp [tkEq, h1, h2, h3]
theorem bsOf_size (l : List UInt8) : (bsOf l).size = l.length := by show l.toArray.size = _; simp
theorem speltP_bad {x : Tk} {q : List Tk} {a : Nat} {k : Int} (h : ¬ (x.kind = 3 ∧ textErr x.s.toList ≠ 0)) (hq : readP (bsOf (speltT x)) = (q, a, k)) (hk : ¬ k = 0 ∨ ¬ q.length = 1) : speltP x = ([], false) := by
  rw [speltP, if_neg h, hq]
  match q, hk with
  | [], _ => rfl
  | [t], hk => simp only; rw [if_neg (by simpa using hk)]
  | _ :: _ :: _, _ => rfl
theorem speltP_ok {x t : Tk} {a : Nat} (h : ¬ (x.kind = 3 ∧ textErr x.s.toList ≠ 0)) (hq : readP (bsOf (speltT x)) = ([t], a, 0)) : speltP x = (speltT x, tkEq t ⟨x.kind, x.s, 0⟩) := by
  rw [speltP, if_neg h, hq]; rfl
theorem speltT_len (x : Tk) (hx : x.s.size ≤ 140737488351232) : (bsOf (speltT x)).size ≤ 140737488351300 := by
  rw [bsOf_size]
  unfold speltT
  split
  · have := quoteV_len x.s.toList; omega
  · split
    · rw [List.length_cons, toList_len]; omega
    · rw [toList_len]; omega
/-- What the end of it goes by. -/
structure SpAt (x : Tk) (W w : World) : Prop where
  on : Below W.heap.size W w
  c0 : w.cell? ⟨W.heap.size, 0, none⟩ = some (.int .i64 x.kind)
  c1 : w.cell? ⟨W.heap.size, 1, none⟩ = some (.string x.s)
  lt : W.heap.size < w.heap.size
theorem SpAt.new (x : Tk) (W : World) : SpAt x W (W.alloc (.cells #[.int .i64 x.kind, .string x.s, .int .i64 x.at_] 28)) :=
  ⟨(Below.refl _ _).alloc (Nat.le_refl _) _, by rw [World.cell?_alloc_new]; rfl, by rw [World.cell?_alloc_new]; rfl, by simp⟩
theorem SpAt.later {x : Tk} {W w w' : World} (h : SpAt x W w) (hb : Below w.heap.size w w') : SpAt x W w' :=
  ⟨h.on.trans (hb.mono h.on.size), (hb.cell (p := ⟨W.heap.size, 0, none⟩) h.lt).trans h.c0, (hb.cell (p := ⟨W.heap.size, 1, none⟩) h.lt).trans h.c1, Nat.lt_of_lt_of_le h.lt hb.size⟩
set_option maxRecDepth 100000 in
set_option maxHeartbeats 3200000 in
theorem word_spelt3 (x : Tk) (w : World) (hx : x.s.size ≤ 140737488351232) (h3 : x.kind = 3) (he : textErr x.s.toList = 0) :
    Calls Tryz.prog 24 #[.agg #[.int .i64 x.kind, .string x.s, .int .i64 x.at_]] w fun e w' => e = .returned (.tuple #[encStr (speltP x).1, .bool (speltP x).2]) ∧ Below w.heap.size w w' := by
  have t3 : (x.kind == 3) = true := by simp [h3]
  have hT : encStr (quoteV x.s.toList) = .string (bsOf (speltT x)) := by rw [speltT, if_pos h3]; rfl
  have hn : ¬ (x.kind = 3 ∧ textErr x.s.toList ≠ 0) := fun h => h.2 he
  have hq0 := name_Quote x.s
  rw [hT, he, errV_zero] at hq0
  have HQ0 := Lib.hid hq0
  clear hq0 hT
  obtain ⟨q, a, k, hq⟩ : ∃ q a k, readP (bsOf (speltT x)) = (q, a, k) := ⟨_, _, _, rfl⟩
  obtain ⟨r, hr⟩ : ∃ r, speltP x = r := ⟨_, rfl⟩
  have hR0 := fun W => word_ReadX (bsOf (speltT x)) W (speltT_len x hx)
  rw [hq] at hR0
  have HR := Lib.hid hR0
  rw [hr]
  clear hR0
  by_cases hk : k = 0
  · by_cases hl : q.length = 1
    · obtain ⟨t, rfl⟩ : ∃ t, q = [t] := by
        match q, hl with
        | [t], _ => exact ⟨t, rfl⟩
      subst hk
      have hv := speltP_ok hn hq
      rw [hr] at hv
      have HV := Lib.hid hv
      clear hr hn hq hv hl h3 he
      go_enter Tryz.func24, Tryz.ntmps24
      go_wp2_with fail
      refine (HQ0.out _ (by omega)).mono ?_
      rintro e w1 ⟨rfl, hb1⟩
      have hsp := (SpAt.new x w).later hb1
      clear hb1
      go_wp2_with fail
      refine Calls.mono (HR.out _) ?_
      rintro r2 w2 ⟨A, c, rfl, hnc, hcm, hs, hb2⟩
      have hsp2 := hsp.later hb2
      clear hb2 hsp
      obtain ⟨hon, d0, d1, hlt⟩ := hsp2
      obtain ⟨b, o, rfl, hbl, ⟨e0, e1, e2⟩⟩ := tkSl_at hs (i := 0) (x := t) rfl
      rw [Nat.zero_mul, Nat.add_zero] at e0 e1 e2
      have heq := fun W => eql_tok t ⟨x.kind, x.s, 0⟩ W
      clear hs
      go_wp2_with fail
      go_quiet (fail)
      go_wp2_with fail
      go_ret2
      rw [HV.out]
      exact ⟨rfl, below_drewN hon _⟩
    · have hl1 : ((q.length : Int) != 1) = true := by rw [bne_iff_ne]; omega
      have hk0 : (k != 0) = false := by simp [hk]
      have hv := speltP_bad hn hq (.inr hl)
      rw [hr] at hv
      have HV := Lib.hid hv
      clear hr hn hq hv hl hk h3 he
      go_enter Tryz.func24, Tryz.ntmps24
      go_wp2_with fail
      refine (HQ0.out _ (by omega)).mono ?_
      rintro e w1 ⟨rfl, hb1⟩
      have hsp := (SpAt.new x w).later hb1
      clear hb1
      go_wp2_with fail
      refine Calls.mono (HR.out _) ?_
      rintro r2 w2 ⟨A, c, rfl, hnc, hcm, hs, hb2⟩
      have hsp2 := hsp.later hb2
      clear hb2 hsp
      obtain ⟨hon, d0, d1, hlt⟩ := hsp2
      go_wp2_with fail
      go_ret2
      rw [HV.out]
      exact ⟨rfl, hon⟩
  · have hk0 : (k != 0) = true := by simp [hk]
    have hv := speltP_bad hn hq (.inl hk)
    rw [hr] at hv
    have HV := Lib.hid hv
    clear hr hn hq hv hk h3 he
    go_enter Tryz.func24, Tryz.ntmps24
    go_wp2_with fail
    refine (HQ0.out _ (by omega)).mono ?_
    rintro e w1 ⟨rfl, hb1⟩
    have hsp := (SpAt.new x w).later hb1
    clear hb1
    go_wp2_with fail
    refine Calls.mono (HR.out _) ?_
    rintro r2 w2 ⟨A, c, rfl, hnc, hcm, hs, hb2⟩
    have hsp2 := hsp.later hb2
    clear hb2 hsp
    obtain ⟨hon, d0, d1, hlt⟩ := hsp2
    go_wp2_with fail
    go_ret2
    rw [HV.out]
    exact ⟨rfl, hon⟩
set_option maxRecDepth 100000 in
set_option maxHeartbeats 3200000 in
theorem word_spelt4 (x : Tk) (w : World) (hx : x.s.size ≤ 140737488351232) (h3 : ¬ x.kind = 3) (h4 : x.kind = 4) :
    Calls Tryz.prog 24 #[.agg #[.int .i64 x.kind, .string x.s, .int .i64 x.at_]] w fun e w' => e = .returned (.tuple #[encStr (speltP x).1, .bool (speltP x).2]) ∧ Below w.heap.size w w' := by
  have t3 : (x.kind == 3) = false := by simp [h3]
  have t4 : (x.kind == 4) = true := by simp [h4]
  have hT : (⟨#[63]⟩ : ByteArray) ++ x.s = bsOf (speltT x) := by
    rw [speltT, if_neg h3, if_pos h4]
    apply ByteArray.ext
    rw [ByteArray.data_append, ByteArray.toList_eq]
    show _ = (63 :: x.s.data.toList).toArray
    apply Array.toList_inj.1
    simp
  have hn : ¬ (x.kind = 3 ∧ textErr x.s.toList ≠ 0) := fun h => h3 h.1
  obtain ⟨q, a, k, hq⟩ : ∃ q a k, readP (bsOf (speltT x)) = (q, a, k) := ⟨_, _, _, rfl⟩
  obtain ⟨r, hr⟩ : ∃ r, speltP x = r := ⟨_, rfl⟩
  have hR0 := fun W => word_ReadX (bsOf (speltT x)) W (speltT_len x hx)
  rw [hq] at hR0
  have HT := Lib.hid hT
  clear hT
  have HR := Lib.hid hR0
  rw [hr]
  clear hR0
  by_cases hk : k = 0
  · by_cases hl : q.length = 1
    · obtain ⟨t, rfl⟩ : ∃ t, q = [t] := by
        match q, hl with
        | [t], _ => exact ⟨t, rfl⟩
      subst hk
      have hv := speltP_ok hn hq
      rw [hr] at hv
      have HV := Lib.hid hv
      clear hr hn hq hv hl h3 h4
      go_enter Tryz.func24, Tryz.ntmps24
      go_wp2_with fail
      rw [HT.out]
      have hsp := SpAt.new x w
      refine Calls.mono (HR.out _) ?_
      rintro r2 w2 ⟨A, c, rfl, hnc, hcm, hs, hb2⟩
      have hsp2 := hsp.later hb2
      clear hb2 hsp
      obtain ⟨hon, d0, d1, hlt⟩ := hsp2
      obtain ⟨b, o, rfl, hbl, ⟨e0, e1, e2⟩⟩ := tkSl_at hs (i := 0) (x := t) rfl
      rw [Nat.zero_mul, Nat.add_zero] at e0 e1 e2
      have heq := fun W => eql_tok t ⟨x.kind, x.s, 0⟩ W
      clear hs
      go_wp2_with fail
      go_quiet (fail)
      go_wp2_with fail
      go_ret2
      rw [HV.out]
      exact ⟨rfl, below_drewN hon _⟩
    · have hl1 : ((q.length : Int) != 1) = true := by rw [bne_iff_ne]; omega
      have hk0 : (k != 0) = false := by simp [hk]
      have hv := speltP_bad hn hq (.inr hl)
      rw [hr] at hv
      have HV := Lib.hid hv
      clear hr hn hq hv hl hk h3 h4
      go_enter Tryz.func24, Tryz.ntmps24
      go_wp2_with fail
      rw [HT.out]
      have hsp := SpAt.new x w
      refine Calls.mono (HR.out _) ?_
      rintro r2 w2 ⟨A, c, rfl, hnc, hcm, hs, hb2⟩
      have hsp2 := hsp.later hb2
      clear hb2 hsp
      obtain ⟨hon, d0, d1, hlt⟩ := hsp2
      go_wp2_with fail
      go_ret2
      rw [HV.out]
      exact ⟨rfl, hon⟩
  · have hk0 : (k != 0) = true := by simp [hk]
    have hv := speltP_bad hn hq (.inl hk)
    rw [hr] at hv
    have HV := Lib.hid hv
    clear hr hn hq hv hk h3 h4
    go_enter Tryz.func24, Tryz.ntmps24
    go_wp2_with fail
    rw [HT.out]
    have hsp := SpAt.new x w
    refine Calls.mono (HR.out _) ?_
    rintro r2 w2 ⟨A, c, rfl, hnc, hcm, hs, hb2⟩
    have hsp2 := hsp.later hb2
    clear hb2 hsp
    obtain ⟨hon, d0, d1, hlt⟩ := hsp2
    go_wp2_with fail
    go_ret2
    rw [HV.out]
    exact ⟨rfl, hon⟩
set_option maxRecDepth 100000 in
set_option maxHeartbeats 3200000 in
theorem word_spelt0 (x : Tk) (w : World) (hx : x.s.size ≤ 140737488351232) (h3 : ¬ x.kind = 3) (h4 : ¬ x.kind = 4) :
    Calls Tryz.prog 24 #[.agg #[.int .i64 x.kind, .string x.s, .int .i64 x.at_]] w fun e w' => e = .returned (.tuple #[encStr (speltP x).1, .bool (speltP x).2]) ∧ Below w.heap.size w w' := by
  have t3 : (x.kind == 3) = false := by simp [h3]
  have t4 : (x.kind == 4) = false := by simp [h4]
  have hT : x.s = bsOf (speltT x) := by
    rw [speltT, if_neg h3, if_neg h4, ByteArray.toList_eq]; rfl
  have hn : ¬ (x.kind = 3 ∧ textErr x.s.toList ≠ 0) := fun h => h3 h.1
  obtain ⟨q, a, k, hq⟩ : ∃ q a k, readP (bsOf (speltT x)) = (q, a, k) := ⟨_, _, _, rfl⟩
  obtain ⟨r, hr⟩ : ∃ r, speltP x = r := ⟨_, rfl⟩
  have hR0 := fun W => word_ReadX x.s W (by omega)
  rw [show readP x.s = (q, a, k) by rw [← hq, ← hT]] at hR0
  have HS := Lib.hid (show Value.string x.s = encStr (speltT x) by rw [encStr_bs, ← hT])
  clear hT
  have HR := Lib.hid hR0
  rw [hr]
  clear hR0
  by_cases hk : k = 0
  · by_cases hl : q.length = 1
    · obtain ⟨t, rfl⟩ : ∃ t, q = [t] := by
        match q, hl with
        | [t], _ => exact ⟨t, rfl⟩
      subst hk
      have hv := speltP_ok hn hq
      rw [hr] at hv
      have HV := Lib.hid hv
      clear hr hn hq hv hl h3 h4
      go_enter Tryz.func24, Tryz.ntmps24
      go_wp2_with fail
      have hsp := SpAt.new x w
      refine Calls.mono (HR.out _) ?_
      rintro r2 w2 ⟨A, c, rfl, hnc, hcm, hs, hb2⟩
      have hsp2 := hsp.later hb2
      clear hb2 hsp
      obtain ⟨hon, d0, d1, hlt⟩ := hsp2
      obtain ⟨b, o, rfl, hbl, ⟨e0, e1, e2⟩⟩ := tkSl_at hs (i := 0) (x := t) rfl
      rw [Nat.zero_mul, Nat.add_zero] at e0 e1 e2
      have heq := fun W => eql_tok t ⟨x.kind, x.s, 0⟩ W
      clear hs
      go_wp2_with fail
      go_quiet (fail)
      go_wp2_with fail
      go_ret2
      rw [HV.out, ← HS.out]
      exact ⟨rfl, below_drewN hon _⟩
    · have hl1 : ((q.length : Int) != 1) = true := by rw [bne_iff_ne]; omega
      have hk0 : (k != 0) = false := by simp [hk]
      have hv := speltP_bad hn hq (.inr hl)
      rw [hr] at hv
      have HV := Lib.hid hv
      clear hr hn hq hv hl hk h3 h4
      go_enter Tryz.func24, Tryz.ntmps24
      go_wp2_with fail
      have hsp := SpAt.new x w
      refine Calls.mono (HR.out _) ?_
      rintro r2 w2 ⟨A, c, rfl, hnc, hcm, hs, hb2⟩
      have hsp2 := hsp.later hb2
      clear hb2 hsp
      obtain ⟨hon, d0, d1, hlt⟩ := hsp2
      go_wp2_with fail
      go_ret2
      rw [HV.out]
      exact ⟨rfl, hon⟩
  · have hk0 : (k != 0) = true := by simp [hk]
    have hv := speltP_bad hn hq (.inl hk)
    rw [hr] at hv
    have HV := Lib.hid hv
    clear hr hn hq hv hk h3 h4
    go_enter Tryz.func24, Tryz.ntmps24
    go_wp2_with fail
    have hsp := SpAt.new x w
    refine Calls.mono (HR.out _) ?_
    rintro r2 w2 ⟨A, c, rfl, hnc, hcm, hs, hb2⟩
    have hsp2 := hsp.later hb2
    clear hb2 hsp
    obtain ⟨hon, d0, d1, hlt⟩ := hsp2
    go_wp2_with fail
    go_ret2
    rw [HV.out]
    exact ⟨rfl, hon⟩
set_option maxRecDepth 100000 in
set_option maxHeartbeats 1600000 in
theorem word_spelt (x : Tk) (w : World) (hx : x.s.size ≤ 140737488351232) :
    Calls Tryz.prog 24 #[.agg #[.int .i64 x.kind, .string x.s, .int .i64 x.at_]] w fun e w' => e = .returned (.tuple #[encStr (speltP x).1, .bool (speltP x).2]) ∧ Below w.heap.size w w' := by
  by_cases h3 : x.kind = 3
  · by_cases he : textErr x.s.toList = 0
    · exact word_spelt3 x w hx h3 he
    · have t3 : (x.kind == 3) = true := by simp [h3]
      have HQ := Lib.hid (name_Quote x.s)
      have hne : (textErr x.s.toList != 0) = true := by simp [he]
      obtain ⟨r, hr⟩ : ∃ r, speltP x = r := ⟨_, rfl⟩
      have HR : Hid (r = ([], false)) := by show _ = _; rw [← hr, speltP, if_pos ⟨h3, he⟩]
      rw [hr]
      clear hr h3 he
      go_enter Tryz.func24, Tryz.ntmps24
      go_wp2_with fail
      refine (HQ.out _ (by omega)).mono ?_
      rintro e w1 ⟨rfl, hb1⟩
      go_wp2_with fail
      go_ret2
      rw [HR.out]
      exact ⟨rfl, ((Below.refl _ _).alloc (Nat.le_refl _) _).trans (hb1.mono (by simp))⟩
  · by_cases h4 : x.kind = 4
    · exact word_spelt4 x w hx h3 h4
    · exact word_spelt0 x w hx h3 h4
end Go.Proofs.YtbommoefpekalaaGreatDoor
