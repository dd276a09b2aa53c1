/-
  THE WALKS: (*strings.byteStringReplacer).Replace.
-/
import Derived.Test.YtbommoefpekalaaGreatDoorQuote3
import Derived.Test.YtbommoefpekalaaGreatDoorQPlain
import Derived.Test.YtbommoefpekalaaGreatDoorShelf
import Derived.Deep.DeepCutAuto
import Derived.Deep.QuietTactic
import Derived.BigQuiet
import Derived.Laws.CopyOwn
import Derived.Deep.RegionHeld3
import Derived.IntWalk
namespace Go.Proofs.YtbommoefpekalaaGreatDoor
open Go.RowKit Go.Sort

theorem slice_from (W : World) (G N j : Nat) (hj : j < N) : (Instr.slice 104 (.slice (some ⟨G, 0, none⟩) N N) (some (.int .i64 (j : Int))) none none).run Tryz.prog W = .ok (.slice (some ⟨G, j, none⟩) (N - j) (N - j)) W := by
  have hel : Tryz.prog.elem 104 = 5 := by kernel_rfl
  have hsz : (Go.sizeOf 5).run Tryz.prog W = .ok 1 W := by kernel_rfl
  rw [run_slice_l (P := Tryz.prog) (w := W) 104 (some ⟨G, 0, none⟩) N N (by rw [hel]; exact Tryz.underlying104) .i64 (j : Int) (by omega) (by omega), hel, hsz]
  simp only [Result.andThen, sliced, Int.toNat_natCast]
  rw [if_neg (by omega)]
  simp [Addr.add]
  omega
theorem two_cells {w : World} {a : Nat} {x y : UInt8} (h0 : w.cell? ⟨a, 0, none⟩ = some (.int .u8 (x.toNat : Int))) (h1 : w.cell? ⟨a, 1, none⟩ = some (.int .u8 (y.toNat : Int))) :
    ∀ j v, (byC [x, y])[j]? = some v → w.cell? ((⟨a, 0, none⟩ : Addr).add j) = some v := by
  intro j v hv
  rw [add_none, Nat.zero_add]
  match j, hv with
  | 0, hv => exact h0.trans hv
  | 1, hv => exact h1.trans hv
theorem two_min {N j : Nat} {x y : UInt8} (h : j + 2 ≤ N) : (byC [x, y]).length = Nat.min 2 (N - j) := by
  rw [byC_len]; show 2 = min 2 (N - j); omega
theorem byC_one (l : List UInt8) : ∀ v ∈ byC l, v.oneCell' = true := by
  intro v hv
  obtain ⟨b, _, rfl⟩ := List.mem_map.1 hv
  rfl
theorem splice_take {cur cs : List Value} {j : Nat} (h : j + cs.length ≤ cur.length) : (splice cur j cs).take (j + cs.length) = cur.take j ++ cs := by
  unfold splice
  rw [← List.append_assoc, List.take_append_of_le_length (by simp; omega), List.take_of_length_le (by simp; omega)]
theorem set_take {cur : List Value} {j : Nat} {v : Value} (h : j < cur.length) : (cur.set j v).take (j + 1) = cur.take j ++ [v] := by
  rw [List.take_add_one, List.take_set_of_le (Nat.le_refl _), List.getElem?_set_self h]; rfl
theorem wrap2 (j : Nat) (a b : UInt8) (h : (j : Int) ≤ 5000) : IntKind.i64.wrap ((j : Int) + ((byC [a, b]).length : Nat)) = ((j + 2 : Nat) : Int) := by
  rw [show (byC [a, b]).length = 2 from rfl, IntWalk.i64_in _ (by omega)]; omega
theorem Tryz.info5q : (Tryz.prog.info? 5).map (fun i => (i.zero, i.size, i.bytes)) = some (some (.int .u8 0), 1, 1) := by kernel_rfl
set_option maxRecDepth 100000 in
set_option maxHeartbeats 1600000 in
theorem bsr_Replace (g lo : Nat) (s : ByteArray) (w : World) (ht : RepTab w lo w.heap.size g) (hs : s.size ≤ 1000) :
    Calls Tryz.prog 209 #[.pointer (some ⟨g, 0, none⟩), .string s] w fun e w' => e = .returned (.string ⟨(escP s.toList).toArray⟩) ∧ Below w.heap.size w w' := by
  obtain ⟨hge, hgl, _, hno, ⟨qa, qc, q0, ⟨_, q1⟩, q2, q3⟩, ⟨sa, sc, s0, ⟨_, s1⟩, s2, s3⟩, ⟨ta, t0, ⟨_, t1⟩, t2, t3⟩⟩ := ht
  have HNO := Lib.hid hno
  clear hno
  have hcl : ((escN s.toList : Nat) : Int) ≤ 1000 := by have := escN_le s.toList; rw [toList_len] at this; omega
  have hneq := fun (W : World) (a : Option Addr) (n c : Nat) => run_neq_slice_nil_any (P := Tryz.prog) W 104 5 a n c 0 0 Tryz.underlying104
  go_enter Tryz.func209, Tryz.ntmps209
  go_upto_if 26 with fail
  go_cut [5, 6] (fun s5 s6 wx => s5 = .int .i64 ((s.size : Int) + escN s.toList) ∧ s6 = .bool (escN s.toList != 0) ∧ ∃ n, wx = w.drewN n)
  case first =>
    obtain ⟨c1, hc1⟩ : ∃ c1, Lib.countByte s.data.toList 34 = c1 := ⟨_, rfl⟩
    obtain ⟨c2, hc2⟩ : ∃ c2, Lib.countByte s.data.toList 92 = c2 := ⟨_, rfl⟩
    have hsum : c1 + c2 = escN s.toList := by rw [← hc1, ← hc2, ByteArray.toList_eq]; exact escN_count _
    have HS := Lib.hid hsum
    have hb12 : ((c1 : Nat) : Int) + c2 ≤ 1000 := by omega
    have hC1 : ∀ W, Calls Tryz.prog 211 #[.string s, .string ⟨#[34]⟩] W fun e w' => e = .returned (.int .i64 (c1 : Int)) ∧ W = w' := fun W => by rw [← hc1]; exact (Tryz.strings_Count_one s 34 W).mono fun _ _ h => ⟨h.1, h.2.symm⟩
    have hC2 : ∀ W, Calls Tryz.prog 211 #[.string s, .string ⟨#[92]⟩] W fun e w' => e = .returned (.int .i64 (c2 : Int)) ∧ W = w' := fun W => by rw [← hc2]; exact (Tryz.strings_Count_one s 92 W).mono fun _ _ h => ⟨h.1, h.2.symm⟩
    have HC1 := Lib.hid hC1
    have HC2 := Lib.hid hC2
    clear hc1 hc2 hsum hC1 hC2
    have i34 : (({ data := #[34] } : ByteArray)[0]'(by decide)).toNat = 34 := rfl
    have i92 : (({ data := #[92] } : ByteArray)[0]'(by decide)).toNat = 92 := rfl
    by_cases h16 : 16 ≤ s.size
    · by_cases z1 : c1 = 0
      · have b1 : (((c1 : Nat) : Int) != 0) = false := by simp [z1]
        have Z1 := Lib.hid z1
        clear z1
        by_cases z2 : c2 = 0
        · have b2 : (((c2 : Nat) : Int) != 0) = false := by simp [z2]
          have Z2 := Lib.hid z2
          clear z2
          go_wp2_with fail
          refine wp_loop_rounds 3 ?_
          rw [rounds_succ]
          go_wp2_with fail
          refine (HC1.out _).mono ?_
          rintro e w' ⟨rfl, rfl⟩
          go_wp2_with fail
          rw [rounds_succ]
          go_wp2_with fail
          refine (HC2.out _).mono ?_
          rintro e w' ⟨rfl, rfl⟩
          go_wp2_with fail
          rw [rounds_succ]
          go_wp2_with fail
          go_meet
          have h1 := Z1.out
          have h2 := Z2.out
          have h3 := HS.out
          exact ⟨by rw [← h3]; first | (rw [h1]; simp [h2]; done) | go_num | (simp [h1, h2]; try omega), by rw [← h3]; simp [h1, h2], by first | exact ⟨_, rfl⟩ | exact ⟨0, rfl⟩⟩
        · have b2 : (((c2 : Nat) : Int) != 0) = true := by rw [bne_iff_ne]; omega
          have Z2 := Lib.hid z2
          clear z2
          go_wp2_with fail
          refine wp_loop_rounds 3 ?_
          rw [rounds_succ]
          go_wp2_with fail
          refine (HC1.out _).mono ?_
          rintro e w' ⟨rfl, rfl⟩
          go_wp2_with fail
          rw [rounds_succ]
          go_wp2_with fail
          refine (HC2.out _).mono ?_
          rintro e w' ⟨rfl, rfl⟩
          go_wp2_with fail
          go_quiet (fail)
          go_wp2_with fail
          rw [rounds_succ]
          go_wp2_with fail
          go_meet
          have h1 := Z1.out
          have h2 := Z2.out
          have h3 := HS.out
          exact ⟨by rw [← h3]; first | (rw [h1]; simp [h2]; done) | go_num | (simp [h1, h2]; try omega), by rw [← h3]; simp [h1, h2], by first | exact ⟨_, rfl⟩ | exact ⟨0, rfl⟩⟩
      · have b1 : (((c1 : Nat) : Int) != 0) = true := by rw [bne_iff_ne]; omega
        have Z1 := Lib.hid z1
        clear z1
        by_cases z2 : c2 = 0
        · have b2 : (((c2 : Nat) : Int) != 0) = false := by simp [z2]
          have Z2 := Lib.hid z2
          clear z2
          go_wp2_with fail
          refine wp_loop_rounds 3 ?_
          rw [rounds_succ]
          go_wp2_with fail
          refine (HC1.out _).mono ?_
          rintro e w' ⟨rfl, rfl⟩
          go_wp2_with fail
          go_quiet (fail)
          go_wp2_with fail
          rw [rounds_succ]
          go_wp2_with fail
          refine (HC2.out _).mono ?_
          rintro e w' ⟨rfl, rfl⟩
          go_wp2_with fail
          rw [rounds_succ]
          go_wp2_with fail
          go_meet
          have h1 := Z1.out
          have h2 := Z2.out
          have h3 := HS.out
          exact ⟨by rw [← h3]; first | (rw [h1]; simp [h2]; done) | go_num | (simp [h1, h2]; try omega), by rw [← h3]; simp [h1, h2], by first | exact ⟨_, rfl⟩ | exact ⟨0, rfl⟩⟩
        · have b2 : (((c2 : Nat) : Int) != 0) = true := by rw [bne_iff_ne]; omega
          have Z2 := Lib.hid z2
          clear z2
          go_wp2_with fail
          refine wp_loop_rounds 3 ?_
          rw [rounds_succ]
          go_wp2_with fail
          refine (HC1.out _).mono ?_
          rintro e w' ⟨rfl, rfl⟩
          go_wp2_with fail
          go_quiet (fail)
          go_wp2_with fail
          rw [rounds_succ]
          go_wp2_with fail
          refine (HC2.out _).mono ?_
          rintro e w' ⟨rfl, rfl⟩
          go_wp2_with fail
          go_quiet (fail)
          go_wp2_with fail
          rw [rounds_succ]
          go_wp2_with fail
          go_meet
          have h1 := Z1.out
          have h2 := Z2.out
          have h3 := HS.out
          exact ⟨by rw [← h3]; first | (rw [h1]; simp [h2]; done) | go_num | (simp [h1, h2]; try omega), by rw [← h3]; simp [h1, h2], by first | exact ⟨_, rfl⟩ | exact ⟨0, rfl⟩⟩
    · have HQ := Lib.hid h16
      clear h16
      have h16 : s.size < 16 := by have := HQ.out; omega
      clear HC1 HC2 HS hb12 i34 i92
      go_wp2_with fail
      go_loop [5, 6, 10] (fun n5 n6 i => ∃ k : Nat, k ≤ s.size ∧ i = .int .i64 k ∧ n5 = .int .i64 ((s.size : Int) + escN (s.toList.take k)) ∧ n6 = .bool (escN (s.toList.take k) != 0)) (fun _ _ i => s.size - (intOf i).toNat)
      case atStart => exact ⟨0, by omega, rfl, by simp [escN], by simp [escN]⟩
      case round =>
        obtain ⟨k, hk, rfl, rfl, rfl⟩ := hrel
        by_cases hlt : k < s.size
        · have hg := toList_get s k hlt
          have hq : ((escN (s.toList.take k) : Nat) : Int) ≤ 1000 := by have := escN_le (s.toList.take k); simp [toList_len] at this; omega
          have HT : Hid (s.toList.take (k + 1) = s.toList.take k ++ [s[k]]) := by rw [List.take_add_one, hg]; rfl
          clear hg
          by_cases h34 : s[k].toNat = 34
          · have HY : Hid (escB s[k] = true) := (escB_yes _).2 (.inl h34)
            go_wp2_with fail
            go_round
            case rel => exact ⟨k + 1, by omega, by go_num, by rw [HT.out, escN_snoc, HY.out]; simp; go_num, by rw [HT.out, escN_snoc, HY.out]; simp⟩
            case measure => simp [intOf]; omega
          · by_cases h92 : s[k].toNat = 92
            · have HY : Hid (escB s[k] = true) := (escB_yes _).2 (.inr h92)
              go_wp2_with fail
              go_round
              case rel => exact ⟨k + 1, by omega, by go_num, by rw [HT.out, escN_snoc, HY.out]; simp; go_num, by rw [HT.out, escN_snoc, HY.out]; simp⟩
              case measure => simp [intOf]; omega
            · have HY : Hid (escB s[k] = false) := by
                show _ = _
                cases hq : escB s[k] with
                | false => rfl
                | true => rcases (escB_yes _).1 hq with h | h <;> contradiction
              have hcell := HNO.out s[k].toNat (UInt8.toNat_lt _) h34 h92
              have hb256 : s[k].toNat < 256 := UInt8.toNat_lt _
              go_wp2_with fail
              go_round
              case rel => exact ⟨k + 1, by omega, by go_num, by rw [HT.out, escN_snoc, HY.out]; simp, by rw [HT.out, escN_snoc, HY.out]; simp⟩
              case measure => simp [intOf]; omega
        · have hks : k = s.size := by omega
          subst hks
          have HA : Hid (s.toList.take s.size = s.toList) := List.take_of_length_le (by rw [toList_len]; omega)
          go_wp2_with fail
          go_meet
          exact ⟨by rw [HA.out], by rw [HA.out], ⟨0, rfl⟩⟩
  case rest =>
    obtain ⟨rfl, rfl, n, rfl⟩ := hcut
    have hlen : s.toList.length = s.size := toList_len s
    by_cases hz : escN s.toList = 0
    · have hb0 : (escN s.toList != 0) = false := by simp [hz]
      have HZ := Lib.hid hz
      have HL := Lib.hid hlen
      clear hz hlen
      go_wp2_with fail
      go_ret
      exact ⟨ret_val (by rw [escN_zero _ HZ.out]; exact (encStr_of s).symm), below_drewN (Below.refl _ _) _⟩
    · have hb0 : (escN s.toList != 0) = true := by simp [hz]
      have hN := escP_len s.toList
      obtain ⟨i0, hi, hz0, hz1, hz2⟩ := info_parts (Tryz.info5q)
      have HZ := Lib.hid hz
      have HL := Lib.hid hlen
      have HN := Lib.hid hN
      clear hz hlen hN
      go_wp2_with (at_make; refine wpList_make_full _ rfl (.tmp 84) (.tmp 84) 104 rfl w.heap.size 5 i0 (.int .u8 0) 1 Tryz.underlying104 hi hz0 hz1 .i64 .i64 _ _ (s.size + escN s.toList) rfl rfl (by go_num) (by go_num) (by rw [hz2]; omega) (by unfold maxLen; omega) (by simp) ?_)
      intro w1 hown1 hgrow1
      have hbel1 : Below w.heap.size w w1 := (below_drewN (Below.refl _ _) n).grown hgrow1 (by simp) (by rintro k ⟨⟩)
      obtain ⟨cur0, hcur0, hlen0⟩ : ∃ cur0 : List Value, w1.heap[w.heap.size]? = some (.cells cur0.toArray 5 (0, 0)) ∧ cur0.length = s.size + escN s.toList := by
        rcases hown1.2 with ⟨hv, _⟩ | ⟨g', cap, cur, hv, _, hg, _, _, hsz, _⟩
        · simp at hv
        · injection hv with e1 e2 e3
          injection e1 with e1
          injection e1 with e1
          refine ⟨cur.toList, ?_, ?_⟩
          · rw [Array.toArray_toList]; rw [show w.heap.size = g' from e1]; exact hg
          · rw [Array.length_toList, hsz]; omega
      clear hown1 hgrow1
      have HC0 := Lib.hid hcur0
      have HE0 := Lib.hid hlen0
      clear hcur0 hlen0
      go_wp2_with fail
      go_loopw [13, 14] (fun j i wr => ∃ (k : Nat) (cur : List Value), k ≤ s.size ∧ i = .int .i64 k ∧ j = .int .i64 ((escP (s.toList.take k)).length : Nat) ∧ Hid (cur.length = s.size + escN s.toList) ∧ Hid (wr.heap[w.heap.size]? = some (.cells cur.toArray 5 (0, 0))) ∧
          Hid (cur.take (escP (s.toList.take k)).length = byC (escP (s.toList.take k))) ∧ Below w.heap.size w wr) (fun _ i _ => s.size - (intOf i).toNat)
      case atStart => exact ⟨0, cur0, by omega, rfl, by simp [escP], HE0, HC0, by simp [escP, byC, Hid], hbel1⟩
      case round =>
        obtain ⟨k, cur, hk, rfl, rfl, HE, HC, HT, hb⟩ := hrel
        by_cases hlt : k < s.size
        · have hg := toList_get s k hlt
          have hle := escP_take s.toList (k + 1)
          have HK : Hid (escP (s.toList.take (k + 1)) = escP (s.toList.take k) ++ esc1 s[k]) := by rw [List.take_add_one, hg]; exact escP_snoc _ _
          rw [HK.out, List.length_append, toList_len] at hle
          have HLE := Lib.hid hle
          clear hg hle
          generalize hjn : (escP (s.toList.take k)).length = jn at HT HLE ⊢
          have HJ := Lib.hid hjn
          clear hjn
          have fz : wr.frozen? ⟨w.heap.size, jn, none⟩ = false := by simp [World.frozen?, HC.out]
          by_cases h34 : s[k].toNat = 34
          · have HY : Hid (esc1 s[k] = [92, 34]) := by show _ = _; rw [esc1, if_pos ((escB_yes _).2 (.inl h34)), UInt8.toNat_inj.1 (h34.trans rfl : s[k].toNat = (34 : UInt8).toNat)]
            have g0 : wr.cell? ⟨g, 34, none⟩ = some (.slice (some ⟨qa, 0, none⟩) 2 qc) := (hb.cell (p := ⟨g, 34, none⟩) (by omega)).trans q0
            have hj2 : jn + 2 ≤ s.size + escN s.toList := by have := HLE.out; rw [HY.out] at this; simpa using this
            have hji : (0 : Int) ≤ (jn : Int) := by omega
            have hjN : (jn : Int) ≤ ((s.size + escN s.toList : Nat) : Int) := by omega
            have hsl := fun W => slice_from W w.heap.size (s.size + escN s.toList) jn (by omega)
            have hsrc : ∀ j v, (byC [92, 34])[j]? = some v → wr.cell? ((⟨qa, 0, none⟩ : Addr).add j) = some v := two_cells ((hb.cell (p := ⟨qa, 0, none⟩) q1).trans q2) ((hb.cell (p := ⟨qa, 1, none⟩) q1).trans q3)
            have HSR := Lib.hid hsrc
            clear hsrc
            go_wp2_with fail
            go_region_held3 (fun w' => w'.cell? ⟨g, 34, none⟩ = some (.slice (some ⟨qa, 0, none⟩) 2 qc)) (first | go_keep | (exact (hB4.cell (p := ⟨g, 34, none⟩) hgl).trans q0)) ((refine step_copy_splice rfl (.tmp 105) (.tmp 111) 104 104 rfl 5 Tryz.underlying104 (by kernel_rfl) (some ⟨w.heap.size, jn, none⟩) (some ⟨qa, 0, none⟩) (s.size + escN s.toList - jn) (s.size + escN s.toList - jn) 2 qc (by rfl) (by rfl) w.heap.size jn cur 5 HC.out (byC [92, 34]) (two_min hj2) (fun _ => ⟨rfl, _, rfl, HSR.out⟩) (by rw [HE.out]; exact hj2) (byC_one _) w.heap.size w (below_drewN hb 1) (Nat.le_refl _) ?_; intro w4 HG4 hB4))
            have hL : Hid (jn + 2 = (escP (s.toList.take (k + 1))).length) := by show _ = _; rw [HK.out, List.length_append, HJ.out, HY.out]; rfl
            have hR : Hid ((splice cur jn (byC [92, 34])).take (jn + 2) = byC (escP (s.toList.take (k + 1)))) := by
              show _ = _
              rw [HK.out, byC_append, HY.out, ← HT.out]; exact splice_take (cur := cur) (cs := byC [92, 34]) (j := jn) (by rw [HE.out]; exact hj2)
            have hE : Hid ((splice cur jn (byC [92, 34])).length = s.size + escN s.toList) := by show _ = _; rw [length_splice _ _ _ (by rw [HE.out]; exact hj2)]; exact HE.out
            rw [wrap2 jn 92 34 (by omega)]
            go_wp2_with fail
            go_roundw
            case rel => exact ⟨k + 1, splice cur jn (byC [92, 34]), by omega, by go_num, by rw [hL.out], hE, HG4, by rw [← hL.out]; exact hR, hB4⟩
            case measure => simp [intOf]; omega
          · by_cases h92 : s[k].toNat = 92
            · have HY : Hid (esc1 s[k] = [92, 92]) := by show _ = _; rw [esc1, if_pos ((escB_yes _).2 (.inr h92)), UInt8.toNat_inj.1 (h92.trans rfl : s[k].toNat = (92 : UInt8).toNat)]
              have g0 : wr.cell? ⟨g, 92, none⟩ = some (.slice (some ⟨sa, 0, none⟩) 2 sc) := (hb.cell (p := ⟨g, 92, none⟩) (by omega)).trans s0
              have hj2 : jn + 2 ≤ s.size + escN s.toList := by have := HLE.out; rw [HY.out] at this; simpa using this
              have hji : (0 : Int) ≤ (jn : Int) := by omega
              have hjN : (jn : Int) ≤ ((s.size + escN s.toList : Nat) : Int) := by omega
              have hsl := fun W => slice_from W w.heap.size (s.size + escN s.toList) jn (by omega)
              have hsrc : ∀ j v, (byC [92, 92])[j]? = some v → wr.cell? ((⟨sa, 0, none⟩ : Addr).add j) = some v := two_cells ((hb.cell (p := ⟨sa, 0, none⟩) s1).trans s2) ((hb.cell (p := ⟨sa, 1, none⟩) s1).trans s3)
              have HSR := Lib.hid hsrc
              clear hsrc
              go_wp2_with fail
              go_region_held3 (fun w' => w'.cell? ⟨g, 92, none⟩ = some (.slice (some ⟨sa, 0, none⟩) 2 sc)) (first | go_keep | (exact (hB4.cell (p := ⟨g, 92, none⟩) hgl).trans s0)) ((refine step_copy_splice rfl (.tmp 105) (.tmp 111) 104 104 rfl 5 Tryz.underlying104 (by kernel_rfl) (some ⟨w.heap.size, jn, none⟩) (some ⟨sa, 0, none⟩) (s.size + escN s.toList - jn) (s.size + escN s.toList - jn) 2 sc (by rfl) (by rfl) w.heap.size jn cur 5 HC.out (byC [92, 92]) (two_min hj2) (fun _ => ⟨rfl, _, rfl, HSR.out⟩) (by rw [HE.out]; exact hj2) (byC_one _) w.heap.size w (below_drewN hb 1) (Nat.le_refl _) ?_; intro w4 HG4 hB4))
              have hL : Hid (jn + 2 = (escP (s.toList.take (k + 1))).length) := by show _ = _; rw [HK.out, List.length_append, HJ.out, HY.out]; rfl
              have hR : Hid ((splice cur jn (byC [92, 92])).take (jn + 2) = byC (escP (s.toList.take (k + 1)))) := by
                show _ = _
                rw [HK.out, byC_append, HY.out, ← HT.out]; exact splice_take (cur := cur) (cs := byC [92, 92]) (j := jn) (by rw [HE.out]; exact hj2)
              have hE : Hid ((splice cur jn (byC [92, 92])).length = s.size + escN s.toList) := by show _ = _; rw [length_splice _ _ _ (by rw [HE.out]; exact hj2)]; exact HE.out
              rw [wrap2 jn 92 92 (by omega)]
              go_wp2_with fail
              go_roundw
              case rel => exact ⟨k + 1, splice cur jn (byC [92, 92]), by omega, by go_num, by rw [hL.out], hE, HG4, by rw [← hL.out]; exact hR, hB4⟩
              case measure => simp [intOf]; omega
            · have hnq : escB s[k] = false := by
                cases hq : escB s[k] with
                | false => rfl
                | true => rcases (escB_yes _).1 hq with h | h <;> contradiction
              have HY : Hid (esc1 s[k] = [s[k]]) := by show _ = _; rw [esc1, hnq]; rfl
              have hb256 : s[k].toNat < 256 := UInt8.toNat_lt _
              have hcell : wr.cell? ⟨g, s[k].toNat, none⟩ = some (.slice none 0 0) := (hb.cell (p := ⟨g, s[k].toNat, none⟩) hgl).trans (HNO.out s[k].toNat hb256 h34 h92)
              have hj2 : jn + 1 ≤ s.size + escN s.toList := by have := HLE.out; rw [HY.out] at this; simpa using this
              clear hnq
              have hcj : wr.cell? ⟨w.heap.size, jn, none⟩ = some (cur[jn]'(by rw [HE.out]; omega)) := by
                have h1 : jn < cur.length := by rw [HE.out]; omega
                simp [World.cell?, HC.out, h1]
              have hL : Hid (jn + 1 = (escP (s.toList.take (k + 1))).length) := by show _ = _; rw [HK.out, List.length_append, HJ.out, HY.out]; rfl
              have hR : Hid ((cur.set jn (.int .u8 (s[k].toNat : Int))).take (jn + 1) = byC (escP (s.toList.take (k + 1)))) := by
                show _ = _
                rw [HK.out, byC_append, HY.out, ← HT.out]; exact set_take (by rw [HE.out]; omega)
              have hE : Hid ((cur.set jn (.int .u8 (s[k].toNat : Int))).length = s.size + escN s.toList) := by show _ = _; rw [List.length_set]; exact HE.out
              have hS : Hid ((wr.setCell ⟨w.heap.size, jn, none⟩ (.int .u8 (s[k].toNat : Int))).heap[w.heap.size]? = some (.cells (cur.set jn (.int .u8 (s[k].toNat : Int))).toArray 5 (0, 0))) := by
                have := Blk.set (show Blk wr w.heap.size 5 cur.toArray from HC.out) jn (.int .u8 (s[k].toNat : Int))
                rw [List.setIfInBounds_toArray] at this
                exact this
              go_wp2_with fail
              go_roundw
              case rel => exact ⟨k + 1, cur.set jn (.int .u8 (s[k].toNat : Int)), by omega, by go_num, by rw [← hL.out]; go_num, hE, hS, by rw [← hL.out]; exact hR, hb.setCell (by simp) _⟩
              case measure => simp [intOf]; omega
        · have hks : k = s.size := by omega
          subst hks
          have HA : s.toList.take s.size = s.toList := List.take_of_length_le (by rw [toList_len]; omega)
          rw [HA] at HT ⊢
          clear HA
          have hcv : (convert 104 9 (.slice (some ⟨w.heap.size, 0, none⟩) (s.size + escN s.toList) (s.size + escN s.toList))).run Tryz.prog wr = .ok (.string ⟨(escP s.toList).toArray⟩) wr := by
            have hl : (escP s.toList).length = s.size + escN s.toList := by rw [HN.out, HL.out]
            have := run_convert_bytes_back (P := Tryz.prog) wr 104 9 5 ⟨w.heap.size, 0, none⟩ (s.size + escN s.toList) (escP s.toList) Tryz.underlying104 Tryz.underlying5 Tryz.underlying9 (fun j hj => by
              have ht := HT.out
              rw [List.take_of_length_le (by rw [HE.out, hl]; exact Nat.le_refl _)] at ht
              rw [add_none, Nat.zero_add]
              simp only [World.cell?, HC.out]
              rw [ht]
              simp [byC, hj])
            rwa [hl] at this
          go_wp2_with fail
          go_ret
          exact ⟨rfl, hb⟩
end Go.Proofs.YtbommoefpekalaaGreatDoor
