/-
  THE WALKS: the walker over a formula.
-/
import Derived.Test.YtnhcjpmamgdeoaaDoorTrA
import Derived.BigQuiet
import Derived.IntWalk
import Derived.Laws.BitsAllLaws
namespace Go.Proofs.YtnhcjpmamgdeoaaDoor
open Go.RowKit Go.Sort

theorem vB_idx : ∀ (ss : List (List UInt8)) (v : List UInt8 → Bool) (bits : Nat) (t : List UInt8), t ∈ ss → vB ss v bits t = bits.testBit (ss.length - 1 - ss.idxOf t)
  | [], _, _, _, h => by cases h
  | s :: r, v, bits, t, h => by
    rw [vB]
    by_cases e : t = s
    · subst e
      rw [if_pos rfl, List.idxOf_cons_self]; simp
    · rw [if_neg e]
      have hr : t ∈ r := by rcases List.mem_cons.1 h with h | h; exact absurd h e; exact h
      have hi := List.idxOf_lt_length_iff.2 hr
      have hne : (s == t) = false := by simpa using fun h => e h.symm
      rw [vB_idx r v bits t hr, List.idxOf_cons, hne]
      simp only [cond_false, List.length_cons]
      congr 1
      omega
theorem i64_and1 (n : Int) : Go.bits .and .i64 n 1 = n % 2 := by
  have h1 : (BitVec.ofInt 64 1).toNat = 2 ^ 1 - 1 := by decide
  have key : (BitVec.ofInt 64 n &&& BitVec.ofInt 64 1).toNat = (n % ((2 ^ 64 : Nat) : Int)).toNat % 2 ^ 1 := by
    rw [BitVec.toNat_and, BitVec.toNat_ofInt, h1, Nat.and_two_pow_sub_one_eq_mod]
  show IntKind.i64.wrap ((BitVec.ofInt 64 n &&& BitVec.ofInt 64 1).toNat : Nat) = n % 2
  rw [key, IntKind.wrap_i64]
  omega
theorem cast_one (y : Nat) : ((y : Int) == 1) = decide (y = 1) := by
  rw [Bool.eq_iff_iff]; simp; omega
theorem bit_val (ss : List (List UInt8)) (bits : Nat) (t : List UInt8) (hb : bits < 2 ^ ss.length) (cnt : Int) (hc : (ss.length : Int) - 1 - idxL ss t = cnt) : (Go.bits BinOp.and IntKind.i64 ((bits : Int) / 2 ^ cnt.toNat) 1 == 1) = vB ss noneV bits t := by
  have hdiv : ((bits : Int) / 2 ^ cnt.toNat) = ((bits / 2 ^ cnt.toNat : Nat) : Int) := by simp
  rw [hdiv]
  have hand : Go.bits BinOp.and IntKind.i64 ((bits / 2 ^ cnt.toNat : Nat) : Int) 1 = ((bits / 2 ^ cnt.toNat % 2 : Nat) : Int) := by
    rw [i64_and1]; omega
  rw [hand, cast_one]
  unfold idxL at hc
  split at hc
  · rename_i h
    have hi := List.idxOf_lt_length_iff.2 h
    have : cnt.toNat = ss.length - 1 - ss.idxOf t := by omega
    rw [vB_idx ss _ _ _ h, this, Nat.testBit_eq_decide_div_mod_eq]
  · rename_i h
    have : cnt.toNat = ss.length := by omega
    rw [this, vB_not ss _ _ _ h, Nat.div_eq_of_lt hb]; rfl
def wkV (A : Option Addr) (n c : Nat) (An : Option Addr) (m cn bits : Nat) : Array Value := #[.slice A n c, .slice An m cn, .int .i64 (bits : Int)]
def NextOk (f : Fm) : Prop := ∀ (rest : List Nd) (w : World) (wb : Nat) (A : Option Addr) (c : Nat) (An : Option Addr) (ss : List (List UInt8)) (cn bits : Nat),
  Blk w wb 82 (wkV A (f.enc ++ rest).length c An ss.length cn bits) → NdSl w wb A (f.enc ++ rest) → StrSl w wb An ss → ss.length ≤ 6 → (f.enc ++ rest).length ≤ c → c ≤ 9223372036854775807 → bits < 2 ^ ss.length → cn ≤ 9223372036854775807 →
  Calls Tryd.prog 39 #[.pointer (some ⟨wb, 0, none⟩)] w fun r w' => r = .returned (.bool (f.ev (vB ss noneV bits))) ∧ ∃ A' c', Blk w' wb 82 (wkV A' rest.length c' An ss.length cn bits) ∧ NdSl w' wb A' rest ∧ rest.length ≤ c' ∧ c' ≤ 9223372036854775807 ∧ Only w.heap.size wb w w'
theorem slice_one (w : World) (b o n c : Nat) (hn : n + 1 ≤ c) : (Instr.slice 22 (.slice (some ⟨b, o, none⟩) (n + 1) c) (some (.int .i64 1)) none none).run Tryd.prog w = .ok (.slice (if c = 1 then some ⟨b, o, none⟩ else some ⟨b, o + 4, none⟩) n (c - 1)) w := by
  by_cases h : c = 1
  · subst h
    obtain rfl : n = 0 := by omega
    simp [go_sem]
  · simp [go_sem, h]
    intro hh
    omega
theorem nd_tail {w : World} {B b o c : Nat} {n : Nd} {rest : List Nd} (h : NdSl w B (some ⟨b, o, none⟩) (n :: rest)) (hc : rest.length + 1 ≤ c) : NdSl w B (if c = 1 then some ⟨b, o, none⟩ else some ⟨b, o + 4, none⟩) rest := fun hne => by
  obtain ⟨b', o', e, hb, hx⟩ := h (by simp)
  injection e with e; injection e with e1 e2; subst e1 e2
  have hp : 0 < rest.length := List.length_pos_iff.2 hne
  rw [if_neg (by omega)]
  refine ⟨b, o + 4, rfl, hb, fun i y hy => ?_⟩
  have := hx (i + 1) y (by simpa using hy)
  rwa [show o + (i + 1) * 4 = o + 4 + i * 4 from by omega] at this
/-- The node that is read, and what is left. -/
theorem wk_head {w : World} {wb c : Nat} {A : Option Addr} {n : Nd} {rest : List Nd} (h : NdSl w wb A (n :: rest)) (hc : rest.length + 1 ≤ c) : ∃ b o A1, A = some ⟨b, o, none⟩ ∧ b < wb ∧ NdAt w b o n ∧ NdSl w wb A1 rest ∧
    ∀ W, (Instr.slice 22 (.slice (some ⟨b, o, none⟩) (rest.length + 1) c) (some (.int .i64 1)) none none).run Tryd.prog W = .ok (.slice A1 rest.length (c - 1)) W := by
  obtain ⟨b, o, rfl, hb, hx⟩ := h (by simp)
  have h0 := hx 0 n rfl
  rw [Nat.zero_mul, Nat.add_zero] at h0
  exact ⟨b, o, _, rfl, hb, h0, nd_tail h hc, fun W => slice_one W b o rest.length c hc⟩
theorem idxL_bd (ss : List (List UInt8)) (t : List UInt8) : -1 ≤ idxL ss t ∧ idxL ss t ≤ (ss.length : Int) - 1 := by
  unfold idxL
  split
  · rename_i h; have := List.idxOf_lt_length_iff.2 h; omega
  · omega
/-- The world behind the reading of a node. -/
structure WkAt (w : World) (wb : Nat) (V : Array Value) (A1 : Option Addr) (m c : Nat) (An : Option Addr) (k cn bits : Nat) (w1 : World) : Prop where
  blk : Blk w1 wb 82 (wkV A1 m c An k cn bits)
  box : Blk w1 w.heap.size 47 V
  only : Only w.heap.size wb w w1
theorem wk_world {w : World} {wb : Nat} {A : Option Addr} {n c : Nat} {An : Option Addr} {k cn bits : Nat} (hB : Blk w wb 82 (wkV A n c An k cn bits)) (V : Array Value) (A1 : Option Addr) (m c1 : Nat) :
    WkAt w wb V A1 m c1 An k cn bits ((w.setCell ⟨wb, 0, none⟩ (.slice A1 m c1)).alloc (.cells V 47)) :=
  ⟨(hB.set 0 _).alloc _, by have := Blk.new (w.setCell ⟨wb, 0, none⟩ (.slice A1 m c1)) 47 V; rwa [World.size_setCell] at this, by (repeat (first | assumption | exact Only.refl _ _ _ | apply Only.drew | apply Only.drewN | (refine Only.alloc ?_ (by first | exact Nat.le_refl _ | omega | (simp; done) | (simp; omega)) _) | (refine Only.setCell ?_ (by first | exact .inl rfl | exact .inr (Nat.le_refl _) | exact .inr (by first | omega | (simp; omega))) _)))⟩
theorem WkAt.next {w : World} {wb : Nat} {V : Array Value} {A1 A2 : Option Addr} {m c m2 c2 : Nat} {An : Option Addr} {k cn bits : Nat} {w1 w2 : World} (h : WkAt w wb V A1 m c An k cn bits w1) (hb : Blk w2 wb 82 (wkV A2 m2 c2 An k cn bits)) (ho : Only w1.heap.size wb w1 w2) (hne : wb < w.heap.size) :
    WkAt w wb V A2 m2 c2 An k cn bits w2 :=
  ⟨hb, h.box.only ho h.box.lt (by omega), h.only.trans (ho.mono h.only.size)⟩
theorem NdSl.wk {w w1 : World} {wb : Nat} {A : Option Addr} {xs : List Nd} (h : NdSl w wb A xs) (ho : Only w.heap.size wb w w1) (hlt : wb < w.heap.size) : NdSl w1 wb A xs := h.keep fun p hp => ho.cell (by omega) (by omega)
theorem StrSl.wk {w w1 : World} {wb : Nat} {A : Option Addr} {xs : List (List UInt8)} (h : StrSl w wb A xs) (ho : Only w.heap.size wb w w1) (hlt : wb < w.heap.size) : StrSl w1 wb A xs := h.keep fun p hp => ho.cell (by omega) (by omega)
set_option maxRecDepth 100000 in
set_option maxHeartbeats 6400000 in
theorem next_lit (n : Nd) (h1 : n.op = 1) : NextOk (.lit n) := by
  intro rest w wb A c An ss cn bits hB hsl hss h6 hc hcm hbits hcn
  simp only [Fm.enc, List.cons_append, List.nil_append, List.length_cons] at hc hB hsl
  have hcell := hB.cell
  have hfz := hB.frozen
  have hlt := hB.lt
  obtain ⟨b, o, A1, rfl, hb, ⟨f0, f1, f2, f3⟩, hs1, hsl1⟩ := wk_head hsl hc
  have hbw : b < w.heap.size := by omega
  have HS := Lib.hid hs1
  have HB := Lib.hid hB
  clear hsl hB hs1
  unfold wkV at hcell
  rw [h1] at f0
  go_enter Tryd.func39, Tryd.ntmps39
  go_wp2_with fail
  go_ret
  have hW := wk_world HB.out #[.int .i64 1, .int .i64 n.n, .string n.s, .string n.t] A1 rest.length (c - 1)
  exact ⟨rfl, A1, c - 1, hW.blk, HS.out.wk hW.only hlt, by omega, by omega, hW.only⟩
set_option maxRecDepth 100000 in
set_option maxHeartbeats 6400000 in
theorem next_var (n : Nd) (h1 : n.op = 8) : NextOk (.var n) := by
  intro rest w wb A c An ss cn bits hB hsl hss h6 hc hcm hbits hcn
  simp only [Fm.enc, List.cons_append, List.nil_append, List.length_cons] at hc hB hsl
  have hcell := hB.cell
  have hfz := hB.frozen
  have hlt := hB.lt
  obtain ⟨b, o, A1, rfl, hb, ⟨f0, f1, f2, f3⟩, hs1, hsl1⟩ := wk_head hsl hc
  have hbw : b < w.heap.size := by omega
  have HS := Lib.hid hs1
  have HB := Lib.hid hB
  have HSS := Lib.hid hss
  clear hsl hB hs1 hss
  unfold wkV at hcell
  rw [h1] at f0
  go_enter Tryd.func39, Tryd.ntmps39
  go_wp2_with fail
  have hW := wk_world HB.out #[.int .i64 8, .int .i64 n.n, .string n.s, .string n.t] A1 rest.length (c - 1)
  generalize (w.setCell _ _).alloc _ = w1 at hW ⊢
  have HIX := Lib.hid (fun W (hWW : ∃ q, W = w1.drewN q) => str_Index ss An cn n.s W (by obtain ⟨q, rfl⟩ := hWW; exact (HSS.out.wk (hW.only.drewN q) hlt).more (by have := hW.only.size; simp; omega)) (by omega))
  have hix := idxL_bd ss n.s.toList
  generalize hixe : idxL ss n.s.toList = ix at HIX hix
  have s1 : IntKind.i64.wrap ((ss.length : Int) - 1) = (ss.length : Int) - 1 := IntWalk.i64_in _ (by omega)
  have s2 : IntKind.i64.wrap ((ss.length : Int) - 1 - ix) = (ss.length : Int) - 1 - ix := IntWalk.i64_in _ (by omega)
  have d0 := hW.blk.cell
  have d1 := hW.box.cell
  have l1 := hW.box.lt
  have l2 := hW.blk.lt
  unfold wkV at d0
  clear hcell hfz f0 f1 f2 f3
  obtain ⟨cnt, hcnt⟩ : ∃ cnt : Int, (ss.length : Int) - 1 - ix = cnt := ⟨_, rfl⟩
  have b1 : 0 ≤ cnt := by omega
  have b2 : cnt ≤ 64 := by omega
  rw [hcnt] at s2
  have HIXE : Hid ((ss.length : Int) - 1 - idxL ss n.s.toList = cnt) := by show _ = _; rw [hixe]; exact hcnt
  clear hixe
  go_quiet ((go_at_call 49; exact Calls.quiet_of_same ((HIX.out _ ⟨_, rfl⟩).mono fun _ _ h => ⟨h.1, h.2.symm⟩)))
  have HV := Lib.hid (bit_val ss bits n.s.toList hbits cnt HIXE.out)
  rw [HV.out]
  clear s1 s2 d0 d1 l1 l2
  go_wp2_with fail
  go_ret
  exact ⟨rfl, A1, c - 1, hW.blk.drewN _, HS.out.wk (hW.only.drewN _) hlt, by omega, by omega, hW.only.drewN _⟩
set_option maxRecDepth 100000 in
set_option maxHeartbeats 6400000 in
theorem next_neg (n : Nd) (a : Fm) (h1 : n.op = 9) (ih : NextOk a) : NextOk (.neg n a) := by
  intro rest w wb A c An ss cn bits hB hsl hss h6 hc hcm hbits hcn
  have HI := Lib.hid (ih rest)
  simp only [Fm.enc, List.cons_append, List.length_cons] at hc hB hsl
  have HE : Hid ((Fm.neg n a).ev (vB ss noneV bits) = !a.ev (vB ss noneV bits)) := rfl
  rw [HE.out]
  generalize hT : a.enc ++ rest = T at hc hB hsl HI
  clear hT HE ih
  have hcell := hB.cell
  have hfz := hB.frozen
  have hlt := hB.lt
  obtain ⟨b, o, A1, rfl, hb, ⟨f0, f1, f2, f3⟩, hs1, hsl1⟩ := wk_head hsl hc
  have hbw : b < w.heap.size := by omega
  have HS := Lib.hid hs1
  have HB := Lib.hid hB
  have HSS := Lib.hid hss
  clear hsl hB hs1 hss
  unfold wkV at hcell
  rw [h1] at f0
  go_enter Tryd.func39, Tryd.ntmps39
  go_wp2_with fail
  have hW := wk_world HB.out #[.int .i64 9, .int .i64 n.n, .string n.s, .string n.t] A1 T.length (c - 1)
  generalize (w.setCell _ _).alloc _ = w1 at hW ⊢
  refine (HI.out w1 wb A1 (c - 1) An ss cn bits hW.blk (HS.out.wk hW.only hlt) (HSS.out.wk hW.only hlt) h6 (by omega) (by omega) hbits hcn).mono ?_
  rintro r w2 ⟨rfl, A2, c2, hb2, hs2, hc2, hcm2, ho2⟩
  have hW2 := hW.next hb2 ho2 hlt
  go_wp2_with fail
  go_ret
  exact ⟨rfl, A2, c2, hb2, hs2, hc2, hcm2, hW2.only⟩
set_option maxRecDepth 100000 in
set_option maxHeartbeats 6400000 in
theorem next_two11 (n : Nd) (a d : Fm) (h1 : n.op = 11) (iha : NextOk a) (ihd : NextOk d) : NextOk (.two n a d) := by
  intro rest w wb A c An ss cn bits hB hsl hss h6 hc hcm hbits hcn
  have HI := Lib.hid (fun w wb A c => iha (d.enc ++ rest) w wb A c An ss cn bits)
  have HJ := Lib.hid (fun w wb A c => ihd rest w wb A c An ss cn bits)
  simp only [Fm.enc, List.cons_append, List.length_cons, List.append_assoc] at hc hB hsl
  have HE : Hid ((Fm.two n a d).ev (vB ss noneV bits) = (a.ev (vB ss noneV bits) && d.ev (vB ss noneV bits))) := by show twoB n.op _ _ = _; rw [h1]; rfl
  rw [HE.out]
  obtain ⟨va, hva⟩ : ∃ va, a.ev (vB ss noneV bits) = va := ⟨_, rfl⟩
  obtain ⟨vd, hvd⟩ : ∃ vd, d.ev (vB ss noneV bits) = vd := ⟨_, rfl⟩
  rw [hva] at HI
  rw [hvd] at HJ
  rw [hva, hvd]
  clear HE iha ihd hva hvd
  generalize d.enc ++ rest = T2 at hc hB hsl HI HJ
  generalize a.enc ++ T2 = T at hc hB hsl HI
  have hcell := hB.cell
  have hfz := hB.frozen
  have hlt := hB.lt
  obtain ⟨b, o, A1, rfl, hb, ⟨f0, f1, f2, f3⟩, hs1, hsl1⟩ := wk_head hsl hc
  have hbw : b < w.heap.size := by omega
  have HS := Lib.hid hs1
  have HB := Lib.hid hB
  have HSS := Lib.hid hss
  clear hsl hB hs1 hss
  unfold wkV at hcell
  rw [h1] at f0
  cases va <;> cases vd
  all_goals
    go_enter Tryd.func39, Tryd.ntmps39
    go_wp2_with fail
    have hW := wk_world HB.out #[.int .i64 11, .int .i64 n.n, .string n.s, .string n.t] A1 T.length (c - 1)
    generalize (w.setCell _ _).alloc _ = w1 at hW ⊢
    refine (HI.out w1 wb A1 (c - 1) hW.blk (HS.out.wk hW.only hlt) (HSS.out.wk hW.only hlt) h6 (by omega) (by omega) hbits hcn).mono ?_
    rintro r w2 ⟨rfl, A2, c2, hb2, hs2, hc2, hcm2, ho2⟩
    have hW2 := hW.next hb2 ho2 hlt
    have HS2 := Lib.hid hs2
    clear hs2 hb2 ho2 hcell hfz f0 f1 f2 f3
    go_wp2_with fail
    refine (HJ.out w2 wb A2 c2 hW2.blk HS2.out (HSS.out.wk hW2.only hlt) h6 hc2 hcm2 hbits hcn).mono ?_
    rintro r w3 ⟨rfl, A3, c3, hb3, hs3, hc3, hcm3, ho3⟩
    have hW3 := hW2.next hb3 ho3 hlt
    have HS3 := Lib.hid hs3
    have g0 := hW3.box.cell
    clear hs3 hb3 ho3
    go_wp2_with fail
    go_ret
    exact ⟨rfl, A3, c3, hW3.blk, HS3.out, hc3, hcm3, hW3.only⟩
set_option maxRecDepth 100000 in
set_option maxHeartbeats 6400000 in
theorem next_two12 (n : Nd) (a d : Fm) (h1 : n.op = 12) (iha : NextOk a) (ihd : NextOk d) : NextOk (.two n a d) := by
  intro rest w wb A c An ss cn bits hB hsl hss h6 hc hcm hbits hcn
  have HI := Lib.hid (fun w wb A c => iha (d.enc ++ rest) w wb A c An ss cn bits)
  have HJ := Lib.hid (fun w wb A c => ihd rest w wb A c An ss cn bits)
  simp only [Fm.enc, List.cons_append, List.length_cons, List.append_assoc] at hc hB hsl
  have HE : Hid ((Fm.two n a d).ev (vB ss noneV bits) = (a.ev (vB ss noneV bits) || d.ev (vB ss noneV bits))) := by show twoB n.op _ _ = _; rw [h1]; rfl
  rw [HE.out]
  obtain ⟨va, hva⟩ : ∃ va, a.ev (vB ss noneV bits) = va := ⟨_, rfl⟩
  obtain ⟨vd, hvd⟩ : ∃ vd, d.ev (vB ss noneV bits) = vd := ⟨_, rfl⟩
  rw [hva] at HI
  rw [hvd] at HJ
  rw [hva, hvd]
  clear HE iha ihd hva hvd
  generalize d.enc ++ rest = T2 at hc hB hsl HI HJ
  generalize a.enc ++ T2 = T at hc hB hsl HI
  have hcell := hB.cell
  have hfz := hB.frozen
  have hlt := hB.lt
  obtain ⟨b, o, A1, rfl, hb, ⟨f0, f1, f2, f3⟩, hs1, hsl1⟩ := wk_head hsl hc
  have hbw : b < w.heap.size := by omega
  have HS := Lib.hid hs1
  have HB := Lib.hid hB
  have HSS := Lib.hid hss
  clear hsl hB hs1 hss
  unfold wkV at hcell
  rw [h1] at f0
  cases va <;> cases vd
  all_goals
    go_enter Tryd.func39, Tryd.ntmps39
    go_wp2_with fail
    have hW := wk_world HB.out #[.int .i64 12, .int .i64 n.n, .string n.s, .string n.t] A1 T.length (c - 1)
    generalize (w.setCell _ _).alloc _ = w1 at hW ⊢
    refine (HI.out w1 wb A1 (c - 1) hW.blk (HS.out.wk hW.only hlt) (HSS.out.wk hW.only hlt) h6 (by omega) (by omega) hbits hcn).mono ?_
    rintro r w2 ⟨rfl, A2, c2, hb2, hs2, hc2, hcm2, ho2⟩
    have hW2 := hW.next hb2 ho2 hlt
    have HS2 := Lib.hid hs2
    clear hs2 hb2 ho2 hcell hfz f0 f1 f2 f3
    go_wp2_with fail
    refine (HJ.out w2 wb A2 c2 hW2.blk HS2.out (HSS.out.wk hW2.only hlt) h6 hc2 hcm2 hbits hcn).mono ?_
    rintro r w3 ⟨rfl, A3, c3, hb3, hs3, hc3, hcm3, ho3⟩
    have hW3 := hW2.next hb3 ho3 hlt
    have HS3 := Lib.hid hs3
    have g0 := hW3.box.cell
    clear hs3 hb3 ho3
    go_wp2_with fail
    go_ret
    exact ⟨rfl, A3, c3, hW3.blk, HS3.out, hc3, hcm3, hW3.only⟩
set_option maxRecDepth 100000 in
set_option maxHeartbeats 6400000 in
theorem next_two14 (n : Nd) (a d : Fm) (h1 : n.op = 14) (iha : NextOk a) (ihd : NextOk d) : NextOk (.two n a d) := by
  intro rest w wb A c An ss cn bits hB hsl hss h6 hc hcm hbits hcn
  have HI := Lib.hid (fun w wb A c => iha (d.enc ++ rest) w wb A c An ss cn bits)
  have HJ := Lib.hid (fun w wb A c => ihd rest w wb A c An ss cn bits)
  simp only [Fm.enc, List.cons_append, List.length_cons, List.append_assoc] at hc hB hsl
  have HE : Hid ((Fm.two n a d).ev (vB ss noneV bits) = (a.ev (vB ss noneV bits) == d.ev (vB ss noneV bits))) := by show twoB n.op _ _ = _; rw [h1]; rfl
  rw [HE.out]
  obtain ⟨va, hva⟩ : ∃ va, a.ev (vB ss noneV bits) = va := ⟨_, rfl⟩
  obtain ⟨vd, hvd⟩ : ∃ vd, d.ev (vB ss noneV bits) = vd := ⟨_, rfl⟩
  rw [hva] at HI
  rw [hvd] at HJ
  rw [hva, hvd]
  clear HE iha ihd hva hvd
  generalize d.enc ++ rest = T2 at hc hB hsl HI HJ
  generalize a.enc ++ T2 = T at hc hB hsl HI
  have hcell := hB.cell
  have hfz := hB.frozen
  have hlt := hB.lt
  obtain ⟨b, o, A1, rfl, hb, ⟨f0, f1, f2, f3⟩, hs1, hsl1⟩ := wk_head hsl hc
  have hbw : b < w.heap.size := by omega
  have HS := Lib.hid hs1
  have HB := Lib.hid hB
  have HSS := Lib.hid hss
  clear hsl hB hs1 hss
  unfold wkV at hcell
  rw [h1] at f0
  cases va <;> cases vd
  all_goals
    go_enter Tryd.func39, Tryd.ntmps39
    go_wp2_with fail
    have hW := wk_world HB.out #[.int .i64 14, .int .i64 n.n, .string n.s, .string n.t] A1 T.length (c - 1)
    generalize (w.setCell _ _).alloc _ = w1 at hW ⊢
    refine (HI.out w1 wb A1 (c - 1) hW.blk (HS.out.wk hW.only hlt) (HSS.out.wk hW.only hlt) h6 (by omega) (by omega) hbits hcn).mono ?_
    rintro r w2 ⟨rfl, A2, c2, hb2, hs2, hc2, hcm2, ho2⟩
    have hW2 := hW.next hb2 ho2 hlt
    have HS2 := Lib.hid hs2
    clear hs2 hb2 ho2 hcell hfz f0 f1 f2 f3
    go_wp2_with fail
    refine (HJ.out w2 wb A2 c2 hW2.blk HS2.out (HSS.out.wk hW2.only hlt) h6 hc2 hcm2 hbits hcn).mono ?_
    rintro r w3 ⟨rfl, A3, c3, hb3, hs3, hc3, hcm3, ho3⟩
    have hW3 := hW2.next hb3 ho3 hlt
    have HS3 := Lib.hid hs3
    have g0 := hW3.box.cell
    clear hs3 hb3 ho3
    go_wp2_with fail
    go_ret
    exact ⟨rfl, A3, c3, hW3.blk, HS3.out, hc3, hcm3, hW3.only⟩
set_option maxRecDepth 100000 in
set_option maxHeartbeats 6400000 in
theorem next_ite (n : Nd) (a d g : Fm) (h1 : n.op = 13) (iha : NextOk a) (ihd : NextOk d) (ihg : NextOk g) : NextOk (.ite n a d g) := by
  intro rest w wb A c An ss cn bits hB hsl hss h6 hc hcm hbits hcn
  have HI := Lib.hid (fun w wb A c => iha (d.enc ++ (g.enc ++ rest)) w wb A c An ss cn bits)
  have HJ := Lib.hid (fun w wb A c => ihd (g.enc ++ rest) w wb A c An ss cn bits)
  have HG := Lib.hid (fun w wb A c => ihg rest w wb A c An ss cn bits)
  simp only [Fm.enc, List.cons_append, List.length_cons, List.append_assoc] at hc hB hsl
  have HE : Hid ((Fm.ite n a d g).ev (vB ss noneV bits) = if a.ev (vB ss noneV bits) = true then d.ev (vB ss noneV bits) else g.ev (vB ss noneV bits)) := rfl
  rw [HE.out]
  obtain ⟨va, hva⟩ : ∃ va, a.ev (vB ss noneV bits) = va := ⟨_, rfl⟩
  obtain ⟨vd, hvd⟩ : ∃ vd, d.ev (vB ss noneV bits) = vd := ⟨_, rfl⟩
  obtain ⟨vg, hvg⟩ : ∃ vg, g.ev (vB ss noneV bits) = vg := ⟨_, rfl⟩
  rw [hva] at HI
  rw [hvd] at HJ
  rw [hvg] at HG
  rw [hva, hvd, hvg]
  clear HE iha ihd ihg hva hvd hvg
  generalize g.enc ++ rest = T3 at hc hB hsl HI HJ HG
  generalize d.enc ++ T3 = T2 at hc hB hsl HI HJ
  generalize a.enc ++ T2 = T at hc hB hsl HI
  have hcell := hB.cell
  have hfz := hB.frozen
  have hlt := hB.lt
  obtain ⟨b, o, A1, rfl, hb, ⟨f0, f1, f2, f3⟩, hs1, hsl1⟩ := wk_head hsl hc
  have hbw : b < w.heap.size := by omega
  have HS := Lib.hid hs1
  have HB := Lib.hid hB
  have HSS := Lib.hid hss
  clear hsl hB hs1 hss
  unfold wkV at hcell
  rw [h1] at f0
  cases va
  all_goals
    go_enter Tryd.func39, Tryd.ntmps39
    go_wp2_with fail
    have hW := wk_world HB.out #[.int .i64 13, .int .i64 n.n, .string n.s, .string n.t] A1 T.length (c - 1)
    generalize (w.setCell _ _).alloc _ = w1 at hW ⊢
    refine (HI.out w1 wb A1 (c - 1) hW.blk (HS.out.wk hW.only hlt) (HSS.out.wk hW.only hlt) h6 (by omega) (by omega) hbits hcn).mono ?_
    rintro r w2 ⟨rfl, A2, c2, hb2, hs2, hc2, hcm2, ho2⟩
    have hW2 := hW.next hb2 ho2 hlt
    have HS2 := Lib.hid hs2
    clear hs2 hb2 ho2 hcell hfz f0 f1 f2 f3
    go_wp2_with fail
    refine (HJ.out w2 wb A2 c2 hW2.blk HS2.out (HSS.out.wk hW2.only hlt) h6 hc2 hcm2 hbits hcn).mono ?_
    rintro r w3 ⟨rfl, A3, c3, hb3, hs3, hc3, hcm3, ho3⟩
    have hW3 := hW2.next hb3 ho3 hlt
    have HS3 := Lib.hid hs3
    have g0 := hW3.box.cell
    clear hs3 hb3 ho3
    go_wp2_with fail
    refine (HG.out w3 wb A3 c3 hW3.blk HS3.out (HSS.out.wk hW3.only hlt) h6 hc3 hcm3 hbits hcn).mono ?_
    rintro r w4 ⟨rfl, A4, c4, hb4, hs4, hc4, hcm4, ho4⟩
    have hW4 := hW3.next hb4 ho4 hlt
    have HS4 := Lib.hid hs4
    clear hs4 hb4 ho4 g0
    go_wp2_with fail
    go_ret
    exact ⟨rfl, A4, c4, hW4.blk, HS4.out, hc4, hcm4, hW4.only⟩
theorem next_all : ∀ (f : Fm), f.Ok → NextOk f
  | .lit n, h => next_lit n h
  | .var n, h => next_var n h
  | .neg n a, h => next_neg n a h.1 (next_all a h.2)
  | .two n a d, h => by
    rcases h.1 with h1 | h1 | h1
    · exact next_two11 n a d h1 (next_all a h.2.1) (next_all d h.2.2)
    · exact next_two12 n a d h1 (next_all a h.2.1) (next_all d h.2.2)
    · exact next_two14 n a d h1 (next_all a h.2.1) (next_all d h.2.2)
  | .ite n a d g, h => next_ite n a d g h.1 (next_all a h.2.1) (next_all d h.2.2.1) (next_all g h.2.2.2)
end Go.Proofs.YtnhcjpmamgdeoaaDoor
