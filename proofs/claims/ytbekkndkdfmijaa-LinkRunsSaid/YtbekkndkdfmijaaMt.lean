/- LinkRuns: the walk (function 3). No condition. -/
import Derived.Test.YtbekkndkdfmijaaMs
import Derived.Deep.CutBlock
import Derived.BigQuiet
set_option linter.unusedSimpArgs false
set_option linter.unusedVariables false
namespace Go.Proofs.Ytbekkndkdfmijaa
open Go.RowKit Go

set_option maxRecDepth 100000 in
set_option maxHeartbeats 16000000 in
theorem linkRuns_any (win kz : Int) (A : Option Addr) (n c : Nat) (l : List Int) (w : World) (hw : I64 win) (hk : (Lit.int .u64 kz).wf = true) (hnc : n ≤ c) (hn : n ≤ 140737488351232) (hl : Reads w w.heap.size 1 A n (ints l)) (hI : ∀ x ∈ l, I64 x) :
    Calls Try.prog 3 #[.int .i64 win, .int .u64 kz, .slice A n c] w fun e W' => e = .returned (.bool true) ∧ Below w.heap.size w W' := by
  have bk := bounds_u64 hk
  obtain ⟨key, rfl⟩ := Int.eq_ofNat_of_zero_le bk.1
  have hkey : key < 18446744073709551616 := by omega
  clear hk bk
  have hq : I64 (win.tdiv 16) := hw.tdiv 16
  have l0 := around_lt win 16 (by omega)
  have l1 := around_lt (win.tdiv 16) 16 (by omega)
  have hw1 : IntKind.i64.wrap (1 + around win 16) = 1 + around win 16 := by rw [IntKind.wrap_i64]; omega
  have hw2 : IntKind.i64.wrap (1 + around (win.tdiv 16) 16) = 1 + around (win.tdiv 16) 16 := by rw [IntKind.wrap_i64]; omega
  have hwq : wrap64 (win.tdiv 16) = win.tdiv 16 := by have := hq; unfold I64 at this; unfold wrap64; omega
  go_enter Try.func3, Try.ntmps3
  go_wp2_with fail
  refine (ends_any win key w hw).mono ?_
  rintro - w1 ⟨eb, g, h, col, rfl, HS⟩
  have hnil := eql_nil24r w1 (some ⟨eb, 0, none⟩) 2 2
  simp only [Option.isNone_some] at hnil
  go_wp2_with fail
  refine (around_any win 16 w1 hw.1 hw.2 (by omega) (by omega)).mono ?_
  rintro - w2 ⟨rfl, rfl⟩
  go_wp2_with fail
  refine (around_any (win.tdiv 16) 16 _ hq.1 hq.2 (by omega) (by omega)).mono ?_
  rintro - w3 ⟨rfl, rfl⟩
  go_wp2_with fail
  obtain ⟨col3, hM⟩ := mid_start (V := winOf win) HS.out (a0 := 1 + around win 16) (a1 := 1 + around (win.tdiv 16) 16) (by unfold winOf; rw [if_pos rfl]; omega) (by unfold winOf; rw [if_neg (by omega)]; omega)
  have hI0 : RunI key 0 (fun k => newE (winOf win k) key) (fun _ => []) [] [] := ⟨fun k hk => endR_new (winOf_le win k) 0, rfl, Nat.le_refl _, fun p hp => (by cases hp), fun j t h => (by simp at h)⟩
  have HM0 := Lib.hid hM
  have HI0 := Lib.hid hI0
  clear hM hI0 HS hnil hw1 hw2 hwq l0 l1 hq hw
  obtain ⟨mb, hmb⟩ : ∃ mb, mb = w2.heap.size + 2 := ⟨_, rfl⟩
  obtain ⟨r, hr⟩ : ∃ r : Nat → Nat, r = fun k => w2.heap.size + k := ⟨_, rfl⟩
  rw [← hmb, ← hr] at HM0
  generalize ((w2.alloc (.cells #[.int .i64 (1 + around win 16), .int .u64 (key : Int), .slice none 0 0, .int .i64 0, .int .i64 0, .slice none 0 0, .bool false, .int .i64 0] 31)).alloc (.cells #[.int .i64 (1 + around (win.tdiv 16) 16), .int .u64 (key : Int), .slice none 0 0, .int .i64 0, .int .i64 0, .slice none 0 0, .bool false, .int .i64 0] 31)).alloc (.cells #[.pointer (some ⟨w2.heap.size, 0, none⟩), .pointer (some ⟨w2.heap.size + 1, 0, none⟩)] 26) = w0 at *
  rw [show w2.heap.size + 1 + 1 = mb by omega]
  clear hmb hr
  go_loopw [9, 10, 11] (fun vp vt iv wr => ∃ (i : Nat) (col : Nat → Nat) (E : Nat → EndV) (S : Nat → List (List UInt8)) (P : List (List UInt8)) (T : List Int), i ≤ n ∧ i ≤ 60 ∧ iv = .int .i64 (i : Int) ∧ Hid (Mid w col wr eb g h mb r (2 * i) E E S P T vp vt) ∧ Hid (RunI key i E S P T)) (fun _ _ iv _ => n - (intOf iv).toNat)
  case atStart => exact ⟨0, _, _, _, _, _, by omega, by omega, rfl, HM0, HI0⟩
  case round =>
    clear HM0 HI0
    obtain ⟨i, col, E, S, P, T, hin, hi60, rfl, HM, HI⟩ := hrel
    by_cases hlt : i < n
    · by_cases hlt6 : i < 60
      · have hji : (i : Int) < (n : Int) := by omega
        have hji6 : (i : Int) < 60 := by omega
        obtain ⟨ad, x, hA, hx, hcx⟩ : ∃ ad x, A = some ad ∧ l[i]? = some x ∧ ∀ W, Below w.heap.size w W → W.cell? (ad.add i) = some (.int .i64 x) := by
          have hll : l.length = n := by have := hl.1; simpa [ints] using this
          obtain ⟨ad, e, -, hc⟩ := hl.2 (by omega)
          refine ⟨ad, l[i], e, List.getElem?_eq_getElem (by omega), fun W hW => ?_⟩
          have h1 := hc i (.int .i64 l[i]) (by simp [ints, hll, hlt])
          exact (Below.cell hW (World.block_lt_of_cell? _ _ h1)).trans h1
        subst hA
        have hxI := hI x (List.mem_of_getElem? hx)
        have c0 := hcx wr HM.out.sys.bel
        have hqI : I64 (x.tdiv 8) := hxI.tdiv 8
        have hwq : wrap64 (x.tdiv 8) = x.tdiv 8 := by have := hqI; unfold I64 at this; unfold wrap64; omega
        have HCX := Lib.hid hcx
        clear hx hcx
        go_wp2_with fail
        refine (around_any (x.tdiv 8) 1073741824 wr hqI.1 hqI.2 (by omega) (by omega)).mono ?_
        rintro - w4 ⟨rfl, rfl⟩
        obtain ⟨q1, q2⟩ := around_lt (x.tdiv 8) 1073741824 (by omega)
        obtain ⟨nn, hnn⟩ := Int.eq_ofNat_of_zero_le q1
        rw [hnn] at q2 ⊢
        clear hnn q1 hwq hqI
        go_wp2_with fail
        refine (around_any x 8 w4 hxI.1 hxI.2 (by omega) (by omega)).mono ?_
        rintro - w5 ⟨rfl, rfl⟩
        obtain ⟨s1, s2⟩ := around_lt x 8 (by omega)
        generalize around x 8 = md at *
        obtain ⟨k, hk⟩ : ∃ k, k = nn % 2 := ⟨_, rfl⟩
        have hki : (nn : Int) % 2 = (k : Int) := by omega
        have hk2 : k < 2 := by omega
        have hki2 : (k : Int) < 2 := by omega
        have hki0 : (0 : Int) ≤ (k : Int) := by omega
        rw [hki]
        clear c0 hk hki
        go_upto_block 2 with fail
        go_cut [9, 10, 14, 15, 16, 17, 18, 19, 20, 21, 22, 23] from 67 to 215 (fun vp vt _ _ _ _ _ _ _ _ _ _ wx => ∃ (col : Nat → Nat) (E : Nat → EndV) (S : Nat → List (List UInt8)) (P : List (List UInt8)) (T : List Int), Hid (Mid w col wx eb g h mb r (2 * (i + 1)) E E S P T vp vt) ∧ Hid (RunI key (i + 1) E S P T))
        case first J1 K1 hJ1 hK1 =>
          have hmd : (md = 0 ∨ md = 1) ∨ (md = 2 ∨ md = 3) ∨ 4 ≤ md := by omega
          rcases hmd with hmd | hmd | hmd
          · obtain ⟨nb, hnb⟩ : ∃ nb : Nat, nb = nn % 256 := ⟨_, rfl⟩
            have hb8 : IntKind.u8.wrap (i : Int) = (i : Int) := by rw [IntKind.wrap_u8]; omega
            have hn8 : IntKind.u8.wrap (nn : Int) = (nb : Int) := by rw [IntKind.wrap_u8]; omega
            have hby : Byt (w5.alloc (.cells #[.int .u8 (i : Int), .int .u8 (nb : Int)] 5)) (some ⟨w5.heap.size, 0, none⟩) 2 [byt i, byt nb] := byt_new w5 (a := i) (b := nb) (by omega) (by omega)
            have b1 : Below w5.heap.size w5 (w5.alloc (.cells #[.int .u8 (i : Int), .int .u8 (nb : Int)] 5)) := (Below.refl _ w5).alloc (Nat.le_refl _) _
            have M1 := Lib.hid (HM.out.ok b1)
            have HBY := Lib.hid hby
            have hwl := (HI.out.ends k hk2).waitLen
            have hsl := (HI.out.ends k hk2).slen
            have hsend := run_send M1 hk2 HBY (by omega)
            have HSEND := Lib.hid hsend
            have HR := Lib.hid (show (E k).wait.length < 1000 ∧ (S k).length ≤ 100000 from ⟨by omega, by omega⟩)
            have HS1 := Lib.hid (M1.out.cells hk2)
            clear hby b1 hnb hwl hsl hsend
            rcases hmd with rfl | rfl
            all_goals as_aux_lemma =>
              go_upto_region 29 with fail
              generalize w5.alloc (.cells #[.int .u8 (i : Int), .int .u8 (nb : Int)] 5) = W1 at *
              generalize w5.heap.size = b0 at *
              have okw := Ok.refl W1
              obtain ⟨S0a, S0b⟩ := HS1.out W1 okw
              go_region_held3 (fun W => W.cell? ⟨eb, k, none⟩ = some (.pointer (some ⟨g k, 0, none⟩)) ∧ W.cell? ⟨mb, k, none⟩ = some (.pointer (some ⟨r k, 0, none⟩)))
                (first | (refine HS1.out _ ?_; (focus ((repeat (first | with_reducible assumption | with_reducible exact Ok.refl _ | with_reducible apply Ok.drew | with_reducible apply Ok.alloc | with_reducible apply Ok.drewN)); done))) | (refine HS6.out _ ?_; (focus ((repeat (first | with_reducible assumption | with_reducible exact Ok.refl _ | with_reducible apply Ok.drew | with_reducible apply Ok.alloc | with_reducible apply Ok.drewN)); done))) | (refine HS7.out _ ?_; (focus ((repeat (first | with_reducible assumption | with_reducible exact Ok.refl _ | with_reducible apply Ok.drew | with_reducible apply Ok.alloc | with_reducible apply Ok.drewN)); done))))
                (first
                  | (go_at_call 11; (refine (HSEND.out _ ?_).mono ?_); (focus ((repeat (first | with_reducible assumption | with_reducible exact Ok.refl _ | with_reducible apply Ok.drew | with_reducible apply Ok.alloc | with_reducible apply Ok.drewN)); done)); (rintro E6 w6 ⟨rfl, col6, HM6, HB6⟩); (have ok66 := Ok.refl w6); (have HS6 := Lib.hid (HM6.out.cells hk2)))
                  | (go_at_call 12; (refine (run_rsend HM6 hk2 HB6 HR.out.1 HR.out.2 _ ?_).mono ?_); (focus ((repeat (first | with_reducible assumption | with_reducible exact Ok.refl _ | with_reducible apply Ok.drew | with_reducible apply Ok.alloc | with_reducible apply Ok.drewN)); done)); (rintro E7 w7 ⟨rfl, col7, HM7⟩); (have ok77 := Ok.refl w7); (have HS7 := Lib.hid (HM7.out.cells hk2))))
              go_wp2_with fail
              go_meet
              exact ⟨_, _, _, _, _, Lib.hid (HM7.out.up (by omega)), Lib.hid (HI.out.send hk2 (by simp))⟩
          · have ce := HM.out.sys.cell hk2
            obtain ⟨t, ht⟩ : ∃ t, t = 1 - k := ⟨_, rfl⟩
            have ht2 : t < 2 := by omega
            have hk1 : (1 : Int) - (k : Int) = (t : Int) := by omega
            have hk1w : IntKind.i64.wrap (t : Int) = (t : Int) := by rw [IntKind.wrap_i64]; omega
            have HT01 := Lib.hid (show (t : Int) = 0 ∨ (t : Int) = 1 by omega)
            clear ht
            rcases hmd with rfl | rfl
            all_goals as_aux_lemma =>
              go_wp2_with fail
              refine (mid_out HM.out hk2 (HI.out.ends k hk2) (by omega) hkey).mono ?_
              rintro - w6 ⟨A6, d6, rfl, HM6, HR6, HC6⟩
              have cm := HM6.out.mcell hk2
              clear ce
              go_wp2_with fail
              refine (mid_rout HM6.out hk2 (HI.out.ends k hk2) (by omega) hkey).mono ?_
              rintro - w7 ⟨A7, d7, rfl, HM7, HR7, HC7⟩
              have HR67 := Lib.hid (HR6.out.other HC7 (by omega))
              have hI2 := HI.out.end_ hk2 ((HI.out.ends k hk2).out)
              have hpk := (HI.out.ends k hk2).packets (by omega)
              have hFL : (outF (E k)).length ≤ 16 := outF_len (HI.out.ends k hk2).win
              have HI2 := Lib.hid hI2
              have HPK := Lib.hid hpk
              clear hI2 hpk cm HC6 HC7 HM6 HR6
              generalize outF (E k) = F at *
              go_wp2_with fail
              refine (sameLists_any HR67.out HR7.out (by omega) (fun l hl => by have := HPK.out l hl; omega)).mono ?_
              rintro - w8 ⟨rfl, b8⟩
              have HM8 := Lib.hid (HM7.out.ok b8)
              have HR8 := Lib.hid (HR7.out.ok b8)
              have HPL := Lib.hid HI.out.plen
              clear HM7 HR7 HR67 b8
              go_wp2_with fail
              go_loopw [9, 10, 17] (fun vp vt jv wr => ∃ (j : Nat) (col' : Nat → Nat) (Pj : List (List UInt8)) (Tj : List Int), j ≤ F.length ∧ jv = .int .i64 (j : Int) ∧ Hid (Pj.length = P.length + j) ∧ Hid (Mid w col' wr eb g h mb r (2 * i) (upd E k { E k with owe := false }) (upd E k { E k with owe := false }) S Pj Tj vp vt) ∧ Hid (RunI key (i + 1) (upd E k { E k with owe := false }) S Pj Tj) ∧ Hid (RowAt w col' wr (2 + k) (.slice A7 F.length d7) F)) (fun _ _ jv _ => F.length - (intOf jv).toNat)
              case atStart => exact ⟨0, _, P, T, by omega, rfl, Lib.hid rfl, HM8, HI2, HR8⟩
              case round =>
                clear HM8 HR8 HI2
                obtain ⟨j, col', Pj, Tj, hj, rfl, HPj, HMj, HIj, HRj⟩ := hrel
                by_cases hjl : j < F.length
                · have hji : (j : Int) < (F.length : Int) := by omega
                  have hji0 : (0 : Int) ≤ (j : Int) := by omega
                  obtain ⟨b, d', hv, hd', Ap, np, dp, M⟩ := HRj.out.get hjl
                  injection hv with e1 e2 e3
                  subst e1
                  subst e3
                  obtain ⟨Avp, dvp, rfl, -⟩ := HMj.out.prow.form
                  obtain ⟨Avt, dvt, rfl, -⟩ := HMj.out.trow.form
                  have cM := M.cell
                  have b7 : Below wr.heap.size wr (wr.alloc (.cells #[.slice Ap np dp] 33)) := (Below.refl _ wr).alloc (Nat.le_refl _) _
                  have hR7 := HMj.out.prow.ok b7
                  have hS7 : Sl (wr.alloc (.cells #[.slice Ap np dp] 33)) (.slice Ap np dp) (F[j]?.getD []) := ⟨_, _, _, rfl, M.le, M.byt.u8 (U8.bel b7)⟩
                  have hB7 : w.heap.size ≤ (wr.alloc (.cells #[.slice Ap np dp] 33)).heap.size := by have h1 := HMj.out.sys.bel.size; have h3 := b7.size; omega
                  have hc7 : (wr.alloc (.cells #[.slice Ap np dp] 33)).cell? ⟨wr.heap.size, 0, none⟩ = some (.slice Ap np dp) := (Blk.new wr 33 #[.slice Ap np dp]).at_ rfl
                  have hp := HPK.out (F[j]?.getD []) (by rw [List.getElem?_eq_getElem hjl]; exact List.getElem_mem _)
                  generalize F[j]?.getD [] = p at *
                  have HP := Lib.hid hp
                  have HR7 := Lib.hid hR7
                  have HS7 := Lib.hid hS7
                  have HB7 := Lib.hid hB7
                  have HC7 := Lib.hid hc7
                  have HB := Lib.hid b7
                  have HL7 := Lib.hid (show Pj.length ≤ 100000 by have := HPj.out; have := HPL.out; omega)
                  clear hp hR7 hS7 hB7 hc7 b7 M e2
                  go_upto_region 41 with (at_builtin; refine wpList_row rfl _ _ rfl HR7 rfl rfl HC7.out HS7 HB7.out HL7.out ?_; intro A8 d8 w8 HR8 HD8 HC8)
                  have b9 : Below w8.heap.size w8 (w8.alloc (.cells #[.int .i64 (t : Int)] 3)) := (Below.refl _ w8).alloc (Nat.le_refl _) _
                  have hMr := ((HMj.out.ok HB.out).row HR8.out HC8.out).ok b9
                  have hRr := ((HRj.out.ok HB.out).other HC8.out (by omega)).ok b9
                  have hT9 := hMr.trow
                  have hB9 : w.heap.size ≤ (w8.alloc (.cells #[.int .i64 (t : Int)] 3)).heap.size := by have h1 := HB7.out; have h2 := HC8.out.size; have h3 := b9.size; omega
                  have hc9 : (w8.alloc (.cells #[.int .i64 (t : Int)] 3)).cell? ⟨w8.heap.size, 0, none⟩ = some (.int .i64 (t : Int)) := (Blk.new w8 3 #[.int .i64 (t : Int)]).at_ rfl
                  have HT9 := Lib.hid hT9
                  have HB9 := Lib.hid hB9
                  have HC9 := Lib.hid hc9
                  have HMR := Lib.hid (And.intro hMr hRr)
                  have HL9 := Lib.hid (show Tj.length ≤ 100000 by have := HPj.out; have := HPL.out; have := HIj.out.tlen; omega)
                  clear hT9 hB9 hc9 b9 cM hMr hRr
                  go_wp2_with (at_builtin; refine wpList_ints rfl _ _ rfl HT9 rfl rfl HC9.out HB9.out HL9.out ?_; intro A10 d10 w10 HR10 HD10 HC10)
                  have hinv := HIj.out.packet (p := p) (t := (t : Int)) HP.out HT01.out (by have := HPj.out; have := HPL.out; omega)
                  exact ⟨⟨j + 1, _, _, _, by omega, by go_num, Lib.hid (by have := HPj.out; simp; omega), Lib.hid (HMR.out.1.int HR10.out HC10.out), Lib.hid hinv, Lib.hid (HMR.out.2.other HC10.out (by omega))⟩, by simp [intOf]; omega⟩
                · obtain rfl : j = F.length := by omega
                  have hji : ¬ (F.length : Int) < (F.length : Int) := by omega
                  go_wp2_with fail
                  go_meet
                  exact ⟨_, _, _, _, _, Lib.hid (HMj.out.up (by omega)), HIj⟩
          · as_aux_lemma =>
            have hm0 : (md == 0) = false := by rw [beq_eq_false_iff_ne]; omega
            have hm1 : (md == 1) = false := by rw [beq_eq_false_iff_ne]; omega
            have hm2 : (md == 2) = false := by rw [beq_eq_false_iff_ne]; omega
            have hm3 : (md == 3) = false := by rw [beq_eq_false_iff_ne]; omega
            obtain ⟨Avp, dvp, rfl, hdvp⟩ := HM.out.prow.form
            obtain ⟨Avt, dvt, rfl, hdvt⟩ := HM.out.trow.form
            by_cases hP0 : P.length = 0
            · have hP0' : ((P.length : Int) == 0) = true := by rw [beq_iff_eq]; omega
              have HP0 := Lib.hid hP0
              clear hP0
              go_wp2_with fail
              exact ⟨⟨i + 1, _, _, _, _, _, by omega, by omega, by go_num, Lib.hid (HM.out.up (by omega)), Lib.hid HI.out.up⟩, by simp [intOf]; omega⟩
            · have hPi : ((P.length : Int) == 0) = false := by rw [beq_eq_false_iff_ne]; omega
              have hplen := HI.out.plen
              obtain ⟨q, hq⟩ : ∃ q, q = min P.length 20 := ⟨_, rfl⟩
              have hmin := fun ts t W => run_min_int2 (P := Try.prog) (w := W) ts t .i64 .i64 (P.length : Int) 20
              rw [show (if (20 : Int) < (P.length : Int) then (20 : Int) else (P.length : Int)) = (q : Int) by rw [hq]; split <;> omega] at hmin
              have hq1 : 0 < q := by omega
              have hqP : q ≤ P.length := by omega
              have hqn : ¬ (q : Int) = 0 := by omega
              obtain ⟨m0, hm00⟩ : ∃ m0, m0 = nn / 2 % q := ⟨_, rfl⟩
              have hm0q : m0 < q := by rw [hm00]; exact Nat.mod_lt _ hq1
              have hrem : (nn : Int) / 2 % (q : Int) = (m0 : Int) := by rw [hm00]; rfl
              obtain ⟨p1, hp1⟩ : ∃ p1, p1 = P.length - 1 := ⟨_, rfl⟩
              have hP1i : (P.length : Int) - 1 = (p1 : Int) := by omega
              have hP1w : IntKind.i64.wrap (p1 : Int) = (p1 : Int) := by rw [IntKind.wrap_i64]; omega
              obtain ⟨j, hjd⟩ : ∃ j, j = p1 - m0 := ⟨_, rfl⟩
              have hji : (p1 : Int) - (m0 : Int) = (j : Int) := by omega
              have hjw : IntKind.i64.wrap (j : Int) = (j : Int) := by rw [IntKind.wrap_i64]; omega
              have hjl : j < P.length := by omega
              have HPN := Lib.hid (And.intro hP0 (And.intro hplen hjl))
              clear hP0 hq hm00 hp1 hjd hplen
              obtain ⟨b6, d6, hv6, -, Ap, np, dp, M⟩ := HM.out.prow.get hjl
              injection hv6 with e1 e2 e3
              subst e1
              subst e3
              obtain ⟨bt, dt, hvt, -, cT⟩ := HM.out.trow.get (j := j) (by rw [HI.out.tlen]; exact hjl)
              injection hvt with e4 e5 e6
              subst e4
              subst e6
              obtain ⟨t, ht2, hTj⟩ : ∃ t : Nat, t < 2 ∧ T[j]?.getD 0 = (t : Int) := by
                have hjt : j < T.length := by rw [HI.out.tlen]; exact hjl
                rcases HI.out.tk j _ (List.getElem?_eq_getElem hjt) with h | h
                · exact ⟨0, by omega, by rw [List.getElem?_eq_getElem hjt, h]; rfl⟩
                · exact ⟨1, by omega, by rw [List.getElem?_eq_getElem hjt, h]; rfl⟩
              rw [hTj] at cT
              have hp := HI.out.pk (P[j]?.getD []) (by rw [List.getElem?_eq_getElem hjl]; exact List.getElem_mem _)
              have hpl := M.byt.1
              have hMle := M.le
              generalize P[j]?.getD [] = p at *
              have hjl' : (j : Int) < (P.length : Int) := by omega
              have hjT : (j : Int) < (T.length : Int) := by rw [HI.out.tlen]; omega
              have hjl0 : (0 : Int) ≤ (j : Int) := by omega
              have hnp : 12 ≤ np ∧ np ≤ 1000 := by omega
              have HS := Lib.hid (show ∀ W, Ok w5 W → W.cell? ⟨b6, j, none⟩ = some (.slice Ap np dp) from fun W hW => (M.ok hW).cell)
              have hfew := run_few (W := w5) (Lib.hid M.byt) hMle (by omega) hnp.2
              have HFEW := Lib.hid hfew
              have okw := Ok.refl w5
              have S0 := HS.out w5 okw
              have HTC := Lib.hid (And.intro cT (HM.out.trow.2 bt rfl))
              have HPL := Lib.hid hpl
              have HNP := Lib.hid hnp
              clear hTj hp M e2 e5 hfew cT hpl hnp hMle
              go_upto_region 15 with fail
              go_region_held3 (fun W => W.cell? ⟨b6, j, none⟩ = some (.slice Ap np dp))
                (first | (refine HS.out _ ?_; (focus ((repeat (first | with_reducible assumption | with_reducible exact Ok.refl _ | with_reducible apply Ok.drew | with_reducible apply Ok.alloc | with_reducible apply Ok.drewN)); done))))
                (first
                  | (go_at_call 16; (refine (HFEW.out _ ?_).mono ?_); (focus ((repeat (first | with_reducible assumption | with_reducible exact Ok.refl _ | with_reducible apply Ok.drew | with_reducible apply Ok.alloc | with_reducible apply Ok.drewN)); done)); (rintro E6 w6 ⟨xb, cb, cs, rfl, HX6, hb6⟩); (have ok6 : Ok w5 w6 := Ok.step (by ((repeat (first | with_reducible assumption | with_reducible exact Ok.refl _ | with_reducible apply Ok.drew | with_reducible apply Ok.alloc | with_reducible apply Ok.drewN)); done)) hb6); (have HXB : Hid (w5.heap.size ≤ xb) := Lib.hid (Nat.le_trans (Below.size (show Ok w5 _ from by ((repeat (first | with_reducible assumption | with_reducible exact Ok.refl _ | with_reducible apply Ok.drew | with_reducible apply Ok.alloc | with_reducible apply Ok.drewN)); done))) HX6.out.2.2.2))))
              have HOK6 := Lib.hid ok6
              have hcb := HX6.out.2.2.1
              have HBX : Hid (Byt w6 (some ⟨xb, 0, none⟩) np p) := Lib.hid (byt_blk HX6.out.1 HPL.out HX6.out.2.1)
              clear S0 okw ok6 hb6
              go_upto_if 92 with fail
              go_cut [19] from 90 to 101 (fun v wx => ∃ l1, v = .slice (some ⟨xb, 0, none⟩) np cb ∧ Hid (Byt wx (some ⟨xb, 0, none⟩) np l1) ∧ Hid (Ok w5 wx))
              case first =>
                clear hJ1 hK1
                have hnpi : ¬ (np : Int) = 0 := by have := HNP.out.1; omega
                obtain ⟨x0, hx0⟩ : ∃ x0, x0 = nn / 13 % np := ⟨_, rfl⟩
                have hx1 : x0 < np := by rw [hx0]; exact Nat.mod_lt _ (by have := HNP.out.1; omega)
                have hxi : (nn : Int) / 13 % (np : Int) = (x0 : Int) := by rw [hx0]; rfl
                have hx2 : (x0 : Int) < (np : Int) := by omega
                have hx3 : (0 : Int) ≤ (x0 : Int) := by omega
                obtain ⟨nb, hnb⟩ : ∃ nb : Nat, nb = nn % 256 := ⟨_, rfl⟩
                have hn8 : IntKind.u8.wrap (nn : Int) = (nb : Int) := by rw [IntKind.wrap_u8]; omega
                have hn256 : nb < 256 := by omega
                have k6 := HX6.out.1
                have hpx : x0 < p.length := by rw [HPL.out]; exact hx1
                have c6 : w6.cell? ⟨xb, x0, none⟩ = some (.int .u8 (p[x0].toNat : Int)) := k6.at_ (HX6.out.2.1 x0 _ (by simp [bytesV, hpx]))
                have f6 := k6.frozen x0
                clear hx0 hnb
                refine wp_cond_split rfl (fun h => ?_) (fun h => ?_)
                · clear h
                  go_wp2_with fail
                  go_meet
                  exact ⟨p.set x0 (byt nb), rfl, Lib.hid (byt_set k6 HPL.out HX6.out.2.1 (byt nb) (by rw [byt_toNat hn256])), Lib.hid (Below.setCell HOK6.out (p := ⟨xb, x0, none⟩) HXB.out _)⟩
                · clear h
                  go_wp2_with fail
                  go_meet
                  exact ⟨p, rfl, HBX, HOK6⟩
              case rest =>
                obtain ⟨l1, rfl, HB1, HOK1⟩ := hcut
                clear HX6 HBX HOK6 HXB HFEW HS
                generalize wc = wA at *
                have hnp := HNP.out
                go_upto_if 104 with fail
                go_cut [19] from 102 to 119 (fun v wx => ∃ A1 n1 c1 l2, v = .slice A1 n1 c1 ∧ Hid (Byt wx A1 n1 l2) ∧ Hid (11 ≤ n1 ∧ n1 ≤ 2000 ∧ n1 ≤ c1) ∧ Hid (Ok w5 wx))
                case first =>
                  clear hJ1 hK1
                  obtain ⟨s0, hs0⟩ : ∃ s0, s0 = nn / 17 % 30 := ⟨_, rfl⟩
                  have hsi : (nn : Int) / 17 % 30 = (s0 : Int) := by omega
                  obtain ⟨a0, ha0⟩ : ∃ a0, a0 = nn / 510 % 9 := ⟨_, rfl⟩
                  have hai : (nn : Int) / 510 % 9 = (a0 : Int) := by omega
                  obtain ⟨m3, hm3⟩ : ∃ m3, m3 = nn % 3 := ⟨_, rfl⟩
                  have hmi : (nn : Int) % 3 = (m3 : Int) := by omega
                  have haw : IntKind.i64.wrap ((a0 : Int) - 1) = (a0 : Int) - 1 := by rw [IntKind.wrap_i64]; omega
                  have hm3c : (m3 : Int) ≤ (cb : Int) := by omega
                  have hm3c' : m3 ≤ cb := by omega
                  have hm30 : (0 : Int) ≤ (m3 : Int) := by omega
                  have HI1 : Hid (I64 (s0 : Int) ∧ I64 ((a0 : Int) - 1) ∧ m3 ≤ 100) := Lib.hid ⟨by unfold I64; omega, by unfold I64; omega, by omega⟩
                  have HBT : Hid (Byt wA (some ⟨xb, 0, none⟩) m3 (l1.take m3)) := Lib.hid (HB1.out.take (by omega))
                  clear hs0 ha0 hm3
                  refine wp_cond_split rfl (fun h => ?_) (fun h => ?_)
                  · clear h
                    go_wp2_with fail
                    refine (run_pkt (s0 : Int) ((a0 : Int) - 1) HI1.out.1 HI1.out.2.1 HBT HI1.out.2.2).mono ?_
                    rintro - wB ⟨AB, NB, cB, rfl, HBB, bB⟩
                    go_wp2_with fail
                    refine (run_seal _ _ HI1.out.1 HI1.out.2.1 (by rw [List.length_take]; have := HI1.out.2.2; omega) HBB hkey).mono ?_
                    rintro - wC ⟨AC, NC, cC, LC, rfl, HBC, hNC, bC⟩
                    have HNC := Lib.hid hNC
                    clear hNC
                    go_wp2_with fail
                    go_meet
                    exact ⟨AC, NC, cC, LC, rfl, HBC, HNC, Lib.hid (Ok.step (Ok.step HOK1.out bB) bC)⟩
                  · clear h
                    go_wp2_with fail
                    go_meet
                    exact ⟨_, np, cb, l1, rfl, HB1, Lib.hid ⟨by omega, by omega, hcb⟩, HOK1⟩
                case rest =>
                  obtain ⟨A1, n1, c1, l2, rfl, HB2, HN2, HOK2⟩ := hcut
                  clear HB1 HOK1 HPL
                  generalize wc = wB at *
                  have hn2 := HN2.out
                  go_upto_if 122 with fail
                  go_cut [19] from 120 to 126 (fun v wx => ∃ n2 l3, v = .slice A1 n2 c1 ∧ Hid (Byt wx A1 n2 l3) ∧ Hid (n2 ≤ 2000 ∧ n2 ≤ c1) ∧ Hid (Ok w5 wx))
                  case first =>
                    clear hJ1 hK1
                    obtain ⟨m12, hm12⟩ : ∃ m12, m12 = nn % 12 := ⟨_, rfl⟩
                    have hmi : (nn : Int) % 12 = (m12 : Int) := by omega
                    have hmc : (m12 : Int) ≤ (c1 : Int) := by omega
                    have hmc' : m12 ≤ c1 := by omega
                    have hm0' : (0 : Int) ≤ (m12 : Int) := by omega
                    have HMM := Lib.hid (show m12 ≤ n1 by omega)
                    clear hm12
                    refine wp_cond_split rfl (fun h => ?_) (fun h => ?_)
                    · clear h
                      go_wp2_with fail
                      go_meet
                      exact ⟨m12, _, rfl, Lib.hid (HB2.out.take HMM.out), Lib.hid ⟨by have := HMM.out; omega, by omega⟩, HOK2⟩
                    · clear h
                      go_wp2_with fail
                      go_meet
                      exact ⟨n1, l2, rfl, HB2, Lib.hid ⟨by omega, by omega⟩, HOK2⟩
                  case rest =>
                    obtain ⟨n2, l3, rfl, HB3, HN3, HOK3⟩ := hcut
                    clear HB2 HOK2 HN2 hn2
                    generalize wc = wC at *
                    have HMC := Lib.hid (HM.out.ok HOK3.out)
                    have ceC := HMC.out.sys.cell ht2
                    have cTC : wC.cell? ⟨bt, j, none⟩ = some (.int .i64 (t : Int)) := (Below.cell HOK3.out (World.block_lt_of_cell? _ _ HTC.out.1)).trans HTC.out.1
                    have hti : (t : Int) < 2 := by omega
                    have hti0 : (0 : Int) ≤ (t : Int) := by omega
                    have HI3 := Lib.hid ((HI.out.ends t ht2).in_ l3)
                    go_wp2_with fail
                    refine (mid_in HMC.out ht2 (HI.out.ends t ht2) (by omega) (by omega) hkey HB3.out.reads (by have := HN3.out.1; omega) HN3.out.2).mono ?_
                    rintro - w8 ⟨A8, d8, rfl, HM8, HR8, HC8⟩
                    have cT8 : w8.cell? ⟨bt, j, none⟩ = some (.int .i64 (t : Int)) := (HC8.cell (World.block_lt_of_cell? _ _ cTC) (by rw [HTC.out.2]; omega)).trans cTC
                    have cm8 := HM8.out.mcell ht2
                    have HB8 : Hid (Byt w8 A1 n2 l3) := Lib.hid (HB3.out.u8 HC8.u8)
                    clear ceC cTC HMC
                    go_wp2_with fail
                    refine (mid_rin HM8.out ht2 ((HI.out.ends t ht2).up (j := 2 * i + 1) (by omega)) (by omega) (Nat.le_refl _) hkey HB8.out.reads (by have := HN3.out.1; omega) HN3.out.2).mono ?_
                    rintro - w9 ⟨A9, d9, rfl, HM9, HR9, HC9⟩
                    have HR89 := Lib.hid (HR8.out.other HC9 (by omega))
                    clear cT8 cm8 HM8 HR8 HC8 HC9
                    generalize inF (E t) l3 = R at *
                    have hRl := HI3.out.2.2
                    go_wp2_with fail
                    refine (sameLists_any HR89.out HR9.out (by omega) (fun m hm => by have := HI3.out.2.1 m hm; omega)).mono ?_
                    rintro - w10 ⟨rfl, b10⟩
                    go_wp2_with fail
                    go_meet
                    exact ⟨_, _, _, _, _, Lib.hid ((HM9.out.ok b10).up (by omega)), Lib.hid (HI.out.end_ ht2 HI3.out.1)⟩

        case rest =>
          as_aux_lemma =>
            obtain ⟨col2, E2, S2, P2, T2, HM2, HI2⟩ := hcut
            clear HM HI HCX hl
            go_wp2_with fail
            go_loopw [24] (fun v wr => ∃ j : Nat, j ≤ 2 ∧ v = .int .i64 (j : Int) ∧ Hid (Mid w col2 wr eb g h mb r (2 * (i + 1)) E2 E2 S2 P2 T2 u9 u10)) (fun v _ => 2 - (intOf v).toNat)
            case atStart => exact ⟨0, by omega, rfl, HM2⟩
            case round =>
              clear HM2
              obtain ⟨j, hj, rfl, HMj⟩ := hrel
              by_cases hjl : j < 2
              · have hji : (j : Int) < 2 := by omega
                have hji0 : (0 : Int) ≤ (j : Int) := by omega
                obtain ⟨q, HE, -⟩ := HMj.out.sys.ends j hjl
                obtain ⟨vS, vH, ss, bs, HR, -, -⟩ := HMj.out.refs j hjl
                obtain ⟨vs0, ho0, -⟩ := HR.sent
                obtain ⟨AS, dS, rfl, -, -, -⟩ := own_slice ho0
                have I := HI2.out.ends j hjl
                have hwl := I.waitLen
                have hsl := I.slen
                obtain ⟨wl, hwle⟩ : ∃ wl, wl = (E2 j).wait.length := ⟨_, rfl⟩
                obtain ⟨sl, hsle⟩ : ∃ sl, sl = (S2 j).length := ⟨_, rfl⟩
                obtain ⟨ak, hake⟩ : ∃ ak, ak = (E2 j).ack := ⟨_, rfl⟩
                obtain ⟨fo, hfoe⟩ : ∃ fo, fo = (E2 j).forg := ⟨_, rfl⟩
                have hwa : ∀ W, Ok wr W → Calls Try.prog 21 #[.pointer (some ⟨g j, 0, none⟩)] W fun e W' => e = .returned (.int .i64 (wl : Int)) ∧ W' = W := fun W hW => by
                  rw [hwle]
                  exact waiting_any _ _ _ _ _ _ (HE.bel hW)
                have hfa : ∀ W, Ok wr W → Calls Try.prog 22 #[.pointer (some ⟨g j, 0, none⟩)] W fun e W' => e = .returned (.int .i64 (fo : Int)) ∧ W' = W := fun W hW => by
                  rw [hfoe]
                  exact forged_any _ _ _ _ _ _ (HE.bel hW)
                obtain ⟨S1a, S1b⟩ := HMj.out.cells hjl wr (Ok.refl wr)
                have R2 : wr.cell? ⟨r j, 2, none⟩ = some (.slice AS sl dS) := by rw [hsle]; exact HR.blk.at_ rfl
                have R3 : wr.cell? ⟨r j, 3, none⟩ = some (.int .i64 (ak : Int)) := by rw [hake]; exact HR.blk.at_ rfl
                have R7 : wr.cell? ⟨r j, 7, none⟩ = some (.int .i64 (fo : Int)) := by rw [hfoe]; exact HR.blk.at_ rfl
                rw [← hwle, ← hsle, ← hake] at hwl
                have hsw : (sl : Int) - (ak : Int) = (wl : Int) := by omega
                have hsw2 : IntKind.i64.wrap (wl : Int) = (wl : Int) := by rw [IntKind.wrap_i64]; omega
                have hwq := fun n => Calls.quiet_of_same (hwa (wr.drewN n) (Ok.drewN (Ok.refl wr) n))
                have hfq := fun n => Calls.quiet_of_same (hfa (wr.drewN n) (Ok.drewN (Ok.refl wr) n))
                have HWQ := Lib.hid hwq
                have HFQ := Lib.hid hfq
                clear hwa hfa hwle hsle hake hfoe I HE HR hwq hfq ho0 hwl hsl
                go_wp2_with fail
                go_quiet (first
                  | (go_at_call 21; exact HWQ.out _)
                  | (go_at_call 22; exact HFQ.out _))
                go_wp2_with fail
                exact ⟨⟨j + 1, by omega, by go_num, Lib.hid (HMj.out.ok (Ok.drewN (Ok.refl wr) _))⟩, by simp [intOf]; omega⟩
              · obtain rfl : j = 2 := by omega
                have hji : ¬ ((2 : Nat) : Int) < 2 := by omega
                go_wp2_with fail
                exact ⟨⟨i + 1, _, _, _, _, _, by omega, by omega, by go_num, HMj, HI2⟩, by simp [intOf]; omega⟩

      · obtain rfl : i = 60 := by omega
        have hji : ((60 : Nat) : Int) < (n : Int) := by omega
        have hji6 : ¬ ((60 : Nat) : Int) < 60 := by omega
        go_wp2_with fail
        refine (lives_any wr).mono ?_
        rintro - w30 ⟨rfl, b30⟩
        go_wp2_with fail
        go_ret
        exact ⟨rfl, below_next HM.out.sys.bel b30⟩
    · have hji : ¬ (i : Int) < (n : Int) := by omega
      go_wp2_with fail
      refine (lives_any wr).mono ?_
      rintro - w30 ⟨rfl, b30⟩
      go_wp2_with fail
      go_ret
      exact ⟨rfl, below_next HM.out.sys.bel b30⟩
end Go.Proofs.Ytbekkndkdfmijaa
