/-
  THE WALKS of the reference that prints: WordsOf whole; Printed.
-/
import Derived.Test.YtbggbcnfkcadjaaGreatDoorPf22
import Derived.Test.YtbggbcnfkcadjaaGreatDoorPf15
import Derived.Test.YtbggbcnfkcadjaaGreatDoorPf25
namespace Go.Proofs.YtbggbcnfkcadjaaGreatDoor
set_option maxRecDepth 100000
open Go.RowKit Go.Sort
set_option maxHeartbeats 3200000 in
theorem wo_atom {e ys : List Nd} {b o c i j : Nat} {w0 W : World} {n : Nd} {ws : List Tk} (hE : EIn e b o w0) (hon : RowKit.Below w0.heap.size w0 W) (hat : e.drop i = n :: ys) (hsh : shapedT n = true) (h7 : n.op ≠ 7) (h8 : lvlW n.op = 8)
   (hA : ∀ W', RowKit.Below w0.heap.size w0 W' → Calls Tryz.prog 54 #[.slice (some ⟨b, o, none⟩) e.length c, .int .i64 i] W' fun r w' => WBack W' r w' ws j) :
   Calls Tryz.prog 26 #[.slice (some ⟨b, o, none⟩) e.length c, .int .i64 i] W fun r w' => WBack W r w' ws j := by
 obtain ⟨hi, hlt, -⟩ := drop_at hat
 have hNA := hE.node hon hi
 have HL := Lib.hid (fun W' => wo_level hsh h7 (l := 8) rfl h8 W')
 have HA := Lib.hid hA
 have HO := Lib.hid hon
 have hbw : b < W.heap.size := Nat.lt_of_lt_of_le hE.hb hon.size
 have t13 : (n.op == 13) = false := beq_eq_false_iff_ne.2 (by intro h; rw [h] at h8; exact absurd h8 (by decide))
 have t9 : (n.op == 9) = false := beq_eq_false_iff_ne.2 (by intro h; rw [h] at h8; exact absurd h8 (by decide))
 have t10 : (n.op == 10) = false := beq_eq_false_iff_ne.2 (by intro h; rw [h] at h8; exact absurd h8 (by decide))
 obtain ⟨d0, d1, d2, d3⟩ := hNA
 obtain ⟨op, nn, s, t⟩ := n
 dsimp only at d0 d1 d2 d3 t13 t9 t10 HL
 clear hE hon hat hsh h7 h8 hA hi
 go_enter Tryz.func26, Tryz.ntmps26
 go_wp2_with fail
 have HXa := Lib.hid (Blk.new W 29 #[.int .i64 op, .int .i64 nn, .string s, .string t])
 have hx : RowKit.Below W.heap.size W (W.alloc (.cells #[.int .i64 op, .int .i64 nn, .string s, .string t] 29)) := by (repeat (first | assumption | exact Below.refl _ _ | apply Below.drew | apply below_drewN | (refine Below.alloc ?_ (by first | exact Nat.le_refl _ | omega | (simp; done) | (simp; omega)) _)))
 generalize (W.alloc (.cells #[.int .i64 op, .int .i64 nn, .string s, .string t] 29)) = wa at HXa hx ⊢
 have HBa := Lib.hid hx
 have HOa := Lib.hid (HO.out.trans (hx.mono HO.out.size))
 clear hx d0 d1 d2 d3 HO
 refine (HL.out wa).mono ?_
 rintro r w1 ⟨rfl, b1⟩
 have HB1 := Lib.hid (HBa.out.trans (b1.mono HBa.out.size))
 have HO1 := Lib.hid (HOa.out.trans (b1.mono HOa.out.size))
 have HX1 := Lib.hid (HXa.out.below b1 HXa.out.lt)
 have k0 : w1.cell? ⟨W.heap.size, 0, none⟩ = some (.int .i64 op) := HX1.out.cell 0
 clear b1 HXa HBa HOa
 go_wp2_with fail
 refine (HA.out w1 HO1.out).mono ?_
 rintro r w2 ⟨A2, c2, rfl, h2, m2, s2, b2⟩
 have HB2 := Lib.hid (HB1.out.trans (b2.mono HB1.out.size))
 have HS2 := Lib.hid s2
 clear s2 b2 k0
 go_wp2_with fail
 refine bodyPost_ret (results_tmp2 rfl _ _ _) rfl ?_
 exact WBack.of rfl rfl rfl h2 m2 HS2.out HB2.out
theorem parts_few {b : Bool} {ps : List (List Nd)} (h : ∀ p ∈ ps, Ex (.one b) p) : ps.length ≤ ps.flatten.length := by
 induction ps with
 | nil => simp
 | cons p ps ih =>
   have h1 := ex_nonil (h p (by simp))
   have h2 := ih fun q hq => h q (by simp [hq])
   cases p with
   | nil => exact absurd rfl h1
   | cons a q => simp only [List.length_cons, List.flatten_cons, List.length_append]; omega
theorem words_all {e : List Nd} {b o c : Nat} {w0 : World} (hE : EIn e b o w0) : ∀ N, WOk e b o c w0 N := by
 intro N
 induction N with
 | zero => intro xs rest i j W hl hx; cases hx; simp at hl
 | succ N ih =>
   intro xs rest i j W hl hx hk hd hj hb
   have hx' := hx
   have hwl := words_len _ xs (Nat.le_refl _) hx
   have hel := ex_len hd
   have hle := hE.le
   obtain ⟨n, ps, rfl, h7, hs, hc, hxk⟩ := ex_cutW hx
   have h7' : n.op ≠ 7 := by simpa using h7
   rw [words_node hx' hc hxk] at hwl ⊢
   have hd : e.drop i = n :: (ps.flatten ++ rest) := by rw [hd]; rfl
   have hen : i + 1 + ps.flatten.length = j := by rw [List.length_cons] at hj; omega
   have hkp : ∀ p ∈ ps, NumK p := fun p hp x hxp h2 => hk x (by simp only [List.mem_cons, List.mem_flatten]; exact .inr ⟨p, hp, hxp⟩) h2
   have hpf := parts_few (exk_all hxk)
   have hpl : ps.length ≤ 200 := by rw [List.length_cons] at hel; omega
   have hW : n.op ≠ 6 → ∀ W', RowKit.Below w0.heap.size w0 W' → WIn e b o c N w0 W' n ps rest i j := fun h6 W' hb' => ⟨hE, ih, hb', hd, fun p hp => ⟨parts_lt hl p hp, ex_items hxk h6 p hp, hkp p hp⟩, hs, h7', hen⟩
   have hnp : ∀ k, ndParts n = k → ps.length = k.toNat := fun k hk => by rw [hc, hk]
   have h0 : ndParts n = 0 → ps = [] := fun hk => List.length_eq_zero_iff.1 (hnp 0 hk)
   have h1 : ndParts n = 1 → ∃ a, ps = [a] := fun hk => by
     have := hnp 1 hk
     match ps, this with
     | [a], _ => exact ⟨a, rfl⟩
   have h2 : ndParts n = 2 → ∃ a b, ps = [a, b] := fun hk => by
     have := hnp 2 hk
     match ps, this with
     | [a, b], _ => exact ⟨a, b, rfl⟩
   have h3 : ndParts n = 3 → ∃ a b c, ps = [a, b, c] := fun hk => by
     have := hnp 3 hk
     match ps, this with
     | [a, b, c], _ => exact ⟨a, b, c, rfl⟩
   obtain ⟨op, nn, s, t⟩ := n
   simp only at h7' h7
   rcases op_cases hs h7' with rfl | rfl | rfl | rfl | rfl | rfl | rfl | rfl | rfl | rfl | rfl | rfl | rfl | rfl | rfl | rfl | rfl | rfl | rfl | rfl | rfl | rfl | rfl | rfl | rfl | rfl
   · obtain rfl := h0 rfl
     exact wo_atom hE hb hd hs h7' rfl fun W' hb' => aw_1 (hW (show (1 : Int) ≠ 6 by decide) W' hb') rfl
   · obtain rfl := h0 rfl
     exact wo_atom hE hb hd hs h7' rfl fun W' hb' => aw_2 (hW (show (2 : Int) ≠ 6 by decide) W' hb') rfl (hk ⟨2, nn, s, t⟩ (by simp) rfl)
   · obtain rfl := h0 rfl
     exact wo_atom hE hb hd hs h7' rfl fun W' hb' => aw_3 (hW (show (3 : Int) ≠ 6 by decide) W' hb') rfl
   · obtain rfl := h0 rfl
     exact wo_atom hE hb hd hs h7' rfl fun W' hb' => aw_4 (hW (show (4 : Int) ≠ 6 by decide) W' hb') rfl
   · have e : nodeT ⟨5, nn, s, t⟩ ps = tSg [91] :: (itemsT true ps ++ [tSg [93]]) := rfl
     rw [e] at hwl ⊢
     have h0 : 0 ≤ nn := set_n hs (by simp)
     have hnn : nn = ps.length := by have : ps.length = nn.toNat := hnp nn rfl; omega
     have hil : (itemsT true ps).length ≤ 4000 := by
       rw [List.length_cons, List.length_append] at hwl
       omega
     refine wo_atom hE hb hd hs h7' rfl fun W' hb' => aw_5 ⟨hE, ih, hb', hd, hen, hnn, hil, hpl⟩ rfl fun p hpp => ?_
     have g1 := ex_items (n := ⟨5, nn, s, t⟩) hxk (show (5 : Int) ≠ 6 by decide) p hpp
     obtain ⟨m, qs, e1, e7, -⟩ := ex_cutW g1
     exact ⟨parts_lt hl p hpp, g1, hkp p hpp, by rw [e1]; simpa using e7⟩
   · have e : nodeT ⟨6, nn, s, t⟩ ps = tSg [123] :: (itemsT true ps ++ [tSg [125]]) := rfl
     rw [e] at hwl ⊢
     have h0 : 0 ≤ nn := set_n hs (by simp)
     have hnn : nn = ps.length := by have : ps.length = nn.toNat := hnp nn rfl; omega
     have hil : (itemsT true ps).length ≤ 4000 := by
       rw [List.length_cons, List.length_append] at hwl
       omega
     refine wo_atom hE hb hd hs h7' rfl fun W' hb' => aw_6 ⟨hE, ih, hb', hd, hen, hnn, hil, hpl⟩ rfl fun p hpp => ?_
     obtain ⟨f, v, rfl, f7, hv⟩ := ex_flds (n := ⟨6, nn, s, t⟩) hxk rfl p hpp
     have hl2 := parts_lt hl _ hpp
     exact ⟨f, v, rfl, f7, by rw [List.length_cons] at hl2; omega, hv, fun x hxv h2 => hkp _ hpp x (by simp [hxv]) h2⟩
   · obtain rfl := h0 rfl
     exact wo_atom hE hb hd hs h7' rfl fun W' hb' => aw_8 (hW (show (8 : Int) ≠ 6 by decide) W' hb') rfl
   · obtain ⟨p0, rfl⟩ := h1 rfl
     exact wo_9 (hW (show (9 : Int) ≠ 6 by decide) W hb) rfl
   · obtain ⟨p0, rfl⟩ := h1 rfl
     exact wo_10 (hW (show (10 : Int) ≠ 6 by decide) W hb) rfl
   · obtain ⟨p0, p1, rfl⟩ := h2 rfl
     exact wo_11 (hW (show (11 : Int) ≠ 6 by decide) W hb) rfl
   · obtain ⟨p0, p1, rfl⟩ := h2 rfl
     exact wo_12 (hW (show (12 : Int) ≠ 6 by decide) W hb) rfl
   · obtain ⟨p0, p1, p2, rfl⟩ := h3 rfl
     exact wo_13 (hW (show (13 : Int) ≠ 6 by decide) W hb) rfl
   · obtain ⟨p0, p1, rfl⟩ := h2 rfl
     exact wo_14 (hW (show (14 : Int) ≠ 6 by decide) W hb) rfl
   · obtain ⟨p0, p1, rfl⟩ := h2 rfl
     exact wo_15 (hW (show (15 : Int) ≠ 6 by decide) W hb) rfl
   · obtain ⟨p0, p1, rfl⟩ := h2 rfl
     exact wo_16 (hW (show (16 : Int) ≠ 6 by decide) W hb) rfl
   · obtain ⟨p0, p1, rfl⟩ := h2 rfl
     exact wo_17 (hW (show (17 : Int) ≠ 6 by decide) W hb) rfl
   · obtain ⟨p0, p1, rfl⟩ := h2 rfl
     exact wo_18 (hW (show (18 : Int) ≠ 6 by decide) W hb) rfl
   · obtain ⟨p0, p1, rfl⟩ := h2 rfl
     exact wo_19 (hW (show (19 : Int) ≠ 6 by decide) W hb) rfl
   · obtain ⟨p0, p1, rfl⟩ := h2 rfl
     exact wo_20 (hW (show (20 : Int) ≠ 6 by decide) W hb) rfl
   · obtain ⟨p0, rfl⟩ := h1 rfl
     exact wo_21 (hW (show (21 : Int) ≠ 6 by decide) W hb) rfl
   · obtain ⟨p0, rfl⟩ := h1 rfl
     exact wo_22 (hW (show (22 : Int) ≠ 6 by decide) W hb) rfl
   · obtain ⟨p0, rfl⟩ := h1 rfl
     exact wo_23 (hW (show (23 : Int) ≠ 6 by decide) W hb) rfl
   · obtain ⟨p0, rfl⟩ := h1 rfl
     exact wo_24 (hW (show (24 : Int) ≠ 6 by decide) W hb) rfl
   · obtain ⟨p0, p1, rfl⟩ := h2 rfl
     exact wo_25 (hW (show (25 : Int) ≠ 6 by decide) W hb) rfl
   · obtain ⟨p0, p1, rfl⟩ := h2 rfl
     exact wo_26 (hW (show (26 : Int) ≠ 6 by decide) W hb) rfl
   · obtain ⟨p0, p1, rfl⟩ := h2 rfl
     exact wo_27 (hW (show (27 : Int) ≠ 6 by decide) W hb) rfl
set_option maxHeartbeats 3200000 in
theorem r2_Printed (e : List Nd) (A : Option Addr) (c : Nat) (w : World) (hm : e.length ≤ 9223372036854775807) (hsl : NdSl w w.heap.size A e) (hok : NdOk e) (hk : NumK e) :
   Calls Tryz.prog 14 #[.slice A e.length c] w fun r w' => ∃ A' c', r = .returned (.tuple #[.slice A' (printP e).1.length c', .int .i64 (printP e).2]) ∧ TkSl w' w'.heap.size A' (printP e).1 ∧ RowKit.Below w.heap.size w w' := by
 have HF := Lib.hid (r2_Fault e A c w hm hok hsl)
 obtain ⟨q, hq⟩ : ∃ q, printP e = q := ⟨_, rfl⟩
 rw [hq]
 by_cases h0 : treeErr e = 0
 · obtain ⟨hl, hex⟩ := (tree_iff e).1 h0
   have hne := ex_nonil hex
   obtain ⟨b, o, rfl, hb, -⟩ := hsl hne
   have hE : EIn e b o w := ⟨hsl, hb, hl⟩
   have HW := Lib.hid (fun W (hW : RowKit.Below w.heap.size w W) => words_all (c := c) hE e.length e [] 0 e.length W (Nat.le_refl _) hex hk (by simp) (by omega) hW)
   rw [h0] at HF
   obtain ⟨ws, hws⟩ : ∃ ws, wordsW e = ws := ⟨_, rfl⟩
   have HQ : Hid (q = if 300 < ws.length then ([], 4) else (ws, 0)) := by show _ = _; rw [← hq, ← hws]; unfold printP; rw [if_neg (by simp [h0])]
   rw [hws] at HW
   clear hsl hok hk h0 hex hne hb hE hq hws
   go_enter Tryz.func14, Tryz.ntmps14
   go_wp2_with fail
   refine HF.out.mono ?_
   rintro r w1 ⟨rfl, b1⟩
   have HB1 := Lib.hid b1
   clear b1 HF
   go_wp2_with fail
   refine (HW.out w1 HB1.out).mono ?_
   rintro r w2 ⟨A2, c2, rfl, h2, m2, s2, b2⟩
   have HB2 := Lib.hid (HB1.out.trans (b2.mono HB1.out.size))
   have HS2 := Lib.hid s2
   clear s2 b2 HW HB1
   by_cases h3 : 300 < ws.length
   · have t3 : decide ((300 : Int) < (ws.length : Int)) = true := by simp; omega
     have HQ2 : Hid (q = ([], 4)) := by show _ = _; rw [HQ.out, if_pos h3]
     clear h3
     go_wp2_with fail
     refine bodyPost_ret (results_tmp2 rfl _ _ _) rfl ?_
     rw [HQ2.out]
     exact ⟨none, 0, rfl, fun h => absurd rfl h, HB2.out⟩
   · have t3 : decide ((300 : Int) < (ws.length : Int)) = false := by simp; omega
     have HQ2 : Hid (q = (ws, 0)) := by show _ = _; rw [HQ.out, if_neg h3]
     clear h3
     go_wp2_with fail
     refine bodyPost_ret (results_tmp2 rfl _ _ _) rfl ?_
     rw [HQ2.out]
     exact ⟨A2, c2, rfl, HS2.out, HB2.out⟩
 · have HQ : Hid (q = ([], treeErr e)) := by show _ = _; rw [← hq]; unfold printP; rw [if_pos h0]
   have ht : (treeErr e != 0) = true := by simpa using h0
   clear hsl hok hk h0 hq
   generalize treeErr e = k at HF ht HQ
   go_enter Tryz.func14, Tryz.ntmps14
   go_wp2_with fail
   refine HF.out.mono ?_
   rintro r w1 ⟨rfl, b1⟩
   have HB1 := Lib.hid b1
   clear b1 HF
   go_wp2_with fail
   refine bodyPost_ret (results_tmp2 rfl _ _ _) rfl ?_
   rw [HQ.out]
   exact ⟨none, 0, rfl, fun h => absurd rfl h, HB1.out⟩
end Go.Proofs.YtbggbcnfkcadjaaGreatDoor
