/- LinkOrder: the walk (function 5). No condition. -/
import Derived.Test.YtbekkndkdfmijaaKt
import Derived.Deep.CutBlock
import Derived.BigQuiet
set_option linter.unusedSimpArgs false
set_option linter.unusedVariables false
namespace Go.Proofs.Ytbekkndkdfmijaa
open Go.RowKit Go

set_option maxRecDepth 100000 in
theorem eql_nil24 (W : World) (A : Option Addr) (n c : Nat) : (binOp .eql 24 (.slice A n c) (.slice none 0 0)).run Try.prog W = .ok (.bool A.isNone) W := by
  exact Lib.run_eql_slice_nil W 24 35 A n c 0 0 Try.underlying24

--  2000000 in
set_option maxRecDepth 100000 in
set_option maxHeartbeats 16000000 in
theorem linkOrder_any (win kz : Int) (A : Option Addr) (n c : Nat) (l : List Int) (w : World) (hw : I64 win) (hk : (Lit.int .u64 kz).wf = true) (hnc : n ≤ c) (hn : n ≤ 140737488351232) (hl : Reads w w.heap.size 1 A n (ints l)) (hI : ∀ x ∈ l, I64 x) :
    Calls Try.prog 5 #[.int .i64 win, .int .u64 kz, .slice A n c] w fun e W' => e = .returned (.bool true) ∧ Below w.heap.size w W' := by
  have bk := bounds_u64 hk
  obtain ⟨key, rfl⟩ := Int.eq_ofNat_of_zero_le bk.1
  have hkey : key < 18446744073709551616 := by omega
  clear hk bk
  go_enter Try.func5, Try.ntmps5
  go_wp2_with fail
  refine (ends_any win key w hw).mono ?_
  rintro - w1 ⟨eb, g, h, col, rfl, HS⟩
  have hnil := eql_nil24 w1 (some ⟨eb, 0, none⟩) 2 2
  simp only [Option.isNone_some] at hnil
  go_wp2_with fail
  have z1 := HS.out.bel.size
  have hinit : Ord w (recol (recol col w1.heap.size 2) (w1.heap.size + 1) 3) ((w1.alloc (.cells #[.slice none 0 0, .slice none 0 0] 28)).alloc (.cells #[.int .i64 0, .int .i64 0] 3)) eb g h w1.heap.size (w1.heap.size + 1) key 0 (fun k => newE (winOf win k) key) (fun _ => .slice none 0 0) (fun _ => []) [] [] (.slice none 0 0) (.slice none 0 0) (fun _ => 0) := by
    have b1 : Below w1.heap.size w1 (w1.alloc (.cells #[.slice none 0 0, .slice none 0 0] 28)) := (Below.refl _ w1).alloc (Nat.le_refl _) _
    have e1 : (w1.alloc (.cells #[.slice none 0 0, .slice none 0 0] 28)).heap.size = w1.heap.size + 1 := by simp
    have k1 := Blk.new w1 28 #[.slice none 0 0, .slice none 0 0]
    have s1 := HS.out.other (Chg.of_ok b1 2) (by omega) (by omega)
    generalize w1.alloc (.cells #[.slice none 0 0, .slice none 0 0] 28) = w2 at *
    have b2 : Below w2.heap.size w2 (w2.alloc (.cells #[.int .i64 0, .int .i64 0] 3)) := (Below.refl _ w2).alloc (Nat.le_refl _) _
    have s2 := s1.other (Chg.of_ok b2 3) (by omega) (by omega)
    have k2 := Blk.new w2 3 #[.int .i64 0, .int .i64 0]
    rw [e1] at s2 k2
    refine ⟨s2, k1.ok b2, ?_, z1, k2, recol_new (Nat.le_refl _), by omega, fun k hk => RowAt.nil_ _ _ _ _, RowAt.nil_ _ _ _ _, IntsAt.nil_ _ _ _ _, ⟨fun k hk => ?_, fun k hk => Nat.le_refl _, fun k hk m hm => (by cases hm), rfl, Nat.le_refl _, fun j p hj => (by simp at hj)⟩⟩
    · rw [recol_old (by omega), recol_new (Nat.le_refl _)]
    · have := winOf_le win k
      exact ⟨rfl, this.1, this.2, rfl, rfl, Nat.le_refl _, Nat.le_refl _, Nat.le_refl _, fun s b hb => by cases hb⟩
  generalize (w1.alloc (.cells #[.slice none 0 0, .slice none 0 0] 28)).alloc (.cells #[.int .i64 0, .int .i64 0] 3) = w3 at *
  generalize recol (recol col w1.heap.size 2) (w1.heap.size + 1) 3 = col3 at *
  generalize hsb : w1.heap.size = sb at *
  generalize hgb : sb + 1 = gb at *
  have HO0 := Lib.hid hinit
  clear hinit z1 hnil hsb hgb HS
  go_loopw [10, 11, 12] (fun vp vt iv wr => ∃ (i : Nat) (col : Nat → Nat) (E : Nat → EndV) (V : Nat → Value) (sent : Nat → List (List UInt8)) (P : List (List UInt8)) (T : List Int) (G : Nat → Nat), i ≤ n ∧ i ≤ 80 ∧ iv = .int .i64 (i : Int) ∧ Hid (Ord w col wr eb g h sb gb key i E V sent P T vp vt G) ∧ Hid (∀ k, k < 2 → G k = (E k).got)) (fun _ _ iv _ => n - (intOf iv).toNat)
  case atStart => exact ⟨0, _, _, _, _, _, _, _, by omega, by omega, rfl, HO0, Lib.hid fun _ _ => rfl⟩
  case round =>
    clear HO0
    obtain ⟨i, col, E, V, sent, P, T, G, hin, hi80, rfl, HO, HG⟩ := hrel
    by_cases hlt : i < n
    · by_cases hlt8 : i < 80
      · have hji : (i : Int) < (n : Int) := by omega
        have hji8 : (i : Int) < 80 := by omega
        obtain ⟨ad, x, hA, hx, hcx⟩ : ∃ ad x, A = some ad ∧ l[i]? = some x ∧ ∀ W, Below w.heap.size w W → W.cell? (ad.add i) = some (.int .i64 x) := by
          have hll : l.length = n := by have := hl.1; simpa [ints] using this
          obtain ⟨ad, e, -, hc⟩ := hl.2 (by omega)
          refine ⟨ad, l[i], e, List.getElem?_eq_getElem (by omega), fun W hW => ?_⟩
          have h1 := hc i (.int .i64 l[i]) (by simp [ints, hll, hlt])
          exact (Below.cell hW (World.block_lt_of_cell? _ _ h1)).trans h1
        subst hA
        have hxI := hI x (List.mem_of_getElem? hx)
        have c0 := hcx wr HO.out.sys.bel
        have hqI : I64 (x.tdiv 8) := hxI.tdiv 8
        have hwq : wrap64 (x.tdiv 8) = x.tdiv 8 := by have := hqI; unfold I64 at this; unfold wrap64; omega
        have HX := Lib.hid hx
        have HCX := Lib.hid hcx
        clear hx hcx
        go_wp2_with fail
        refine (around_any (x.tdiv 8) 1073741824 wr hqI.1 hqI.2 (by omega) (by omega)).mono ?_
        rintro - w4 ⟨rfl, rfl⟩
        obtain ⟨q1, q2⟩ := around_lt (x.tdiv 8) 1073741824 (by omega)
        obtain ⟨nn, hnn⟩ := Int.eq_ofNat_of_zero_le q1
        rw [hnn] at q2 ⊢
        clear hnn q1 hwq hqI
        go_wp2_with fail
        refine (around_any x 8 w4 hxI.1 hxI.2 (by omega) (by omega)).mono ?_
        rintro - w5 ⟨rfl, rfl⟩
        obtain ⟨s1, s2⟩ := around_lt x 8 (by omega)
        generalize around x 8 = md at *
        obtain ⟨k, hk⟩ : ∃ k, k = nn % 2 := ⟨_, rfl⟩
        have hki : (nn : Int) % 2 = (k : Int) := by omega
        have hk2 : k < 2 := by omega
        have hki2 : (k : Int) < 2 := by omega
        have hki0 : (0 : Int) ≤ (k : Int) := by omega
        rw [hki]
        clear c0 hk hki
        go_upto_block 2 with fail
        go_cut [10, 11, 15, 16, 17, 18, 19, 20, 21, 22] from 54 to 170 (fun vp vt _ _ _ _ _ _ _ _ wx => ∃ (col : Nat → Nat) (E : Nat → EndV) (V : Nat → Value) (sent : Nat → List (List UInt8)) (P : List (List UInt8)) (T : List Int) (G : Nat → Nat), Hid (Ord w col wx eb g h sb gb key (i + 1) E V sent P T vp vt G) ∧ Hid (∀ k, k < 2 → G k = (E k).got))
        case first =>
          have hmd : (md = 0 ∨ md = 1) ∨ (md = 2 ∨ md = 3) ∨ 4 ≤ md := by omega
          rcases hmd with hmd | hmd | hmd
          · have hb8 : IntKind.u8.wrap (i : Int) = (i : Int) := by rw [IntKind.wrap_u8]; omega
            have hby : Byt (w5.alloc (.cells #[.int .u8 (i : Int), .int .u8 3] 5)) (some ⟨w5.heap.size, 0, none⟩) 2 [byt i, byt 3] := byt_new w5 (a := i) (b := 3) (by omega) (by omega)
            have b1 : Below w5.heap.size w5 (w5.alloc (.cells #[.int .u8 (i : Int), .int .u8 3] 5)) := (Below.refl _ w5).alloc (Nat.le_refl _) _
            have hO1 := HO.out.ok b1
            have ce := hO1.sys.cell hk2
            have HBY := Lib.hid hby
            have O1 := Lib.hid hO1
            have B1 := Lib.hid b1
            clear hby hO1 b1
            have SEND : True := trivial
            rcases hmd with rfl | rfl
            all_goals
              go_wp2_with fail
              obtain ⟨q, HE, hc⟩ := O1.out.sys.ends k hk2
              have hlen := O1.out.inv.len k hk2
              have hwl := (O1.out.inv.ends k hk2).waitLen
              refine (send_any (g k) (h k) i q (E k) (some ⟨w5.heap.size, 0, none⟩) 2 2 [byt i, byt 3] _ HE HBY.out.reads (by omega) (by omega)).mono ?_
              rintro - w6 ⟨q', rfl, H6, hq6, F6⟩
              obtain ⟨hH6, hC6⟩ := EndOk.step HE hc O1.out.sys.bel.size H6 F6 hq6
              have k6 := hC6.blk O1.out.sblk (by rw [O1.out.scol]; omega)
              have s6 : w6.cell? ⟨sb, k, none⟩ = some (V k) := by rw [blk2_at k6 hk2, pick2 V hk2]
              obtain ⟨Av, dv, hV, -⟩ := (O1.out.srow k hk2).form
              rw [hV] at s6
              have b7 : Below w6.heap.size w6 (w6.alloc (.cells #[.slice (some ⟨w5.heap.size, 0, none⟩) 2 2] 33)) := (Below.refl _ w6).alloc (Nat.le_refl _) _
              have hR7 := ((O1.out.srow k hk2).other hC6 (by omega)).ok b7
              rw [hV] at hR7
              have hS7 : Sl (w6.alloc (.cells #[.slice (some ⟨w5.heap.size, 0, none⟩) 2 2] 33)) (.slice (some ⟨w5.heap.size, 0, none⟩) 2 2) [byt i, byt 3] := ⟨_, _, _, rfl, Nat.le_refl _, (HBY.out.u8 hC6.u8).u8 (U8.bel b7)⟩
              have hB7 : w.heap.size ≤ (w6.alloc (.cells #[.slice (some ⟨w5.heap.size, 0, none⟩) 2 2] 33)).heap.size := by have h1 := O1.out.sys.bel.size; have h2 := hC6.size; have h3 := b7.size; omega
              have hc7 : (w6.alloc (.cells #[.slice (some ⟨w5.heap.size, 0, none⟩) 2 2] 33)).cell? ⟨w6.heap.size, 0, none⟩ = some (.slice (some ⟨w5.heap.size, 0, none⟩) 2 2) := (Blk.new w6 33 #[.slice (some ⟨w5.heap.size, 0, none⟩) 2 2]).at_ rfl
              have k7 := k6.ok b7
              have n7 : recol col (w5.alloc (.cells #[.int .u8 (i : Int), .int .u8 3] 5)).heap.size k sb ≠ 4 + k := by rw [recol_old O1.out.sblk.lt, O1.out.scol]; omega
              have K7 := Lib.hid (And.intro k7 n7)
              have HV := Lib.hid hV
              have HR7 := Lib.hid hR7
              have HS7 := Lib.hid hS7
              have HB7 := Lib.hid hB7
              have HC7 := Lib.hid hc7
              have HH6 := Lib.hid hH6
              have HC6 := Lib.hid hC6
              have HB67 := Lib.hid b7
              have HL := Lib.hid (show (sent k).length ≤ 100000 by omega)
              clear hV hR7 hS7 hB7 hc7 hH6 hC6 b7 k7 n7 k6 HE hc H6 F6 hq6 hlen hwl
              go_wp2_with (at_builtin; refine wpList_row rfl _ _ rfl HR7 rfl rfl HC7.out HS7 HB7.out HL.out ?_; intro A8 d8 w8 HR8 HD8 HC8; have k8 := HC8.out.blk K7.out.1 K7.out.2; have t8 : w8.cell? ⟨sb, k, none⟩ = some (.slice Av (sent k).length dv) := (by rw [blk2_at k8 hk2, pick2 V hk2, HV.out]); have f8 := k8.frozen k)
              go_meet
              obtain ⟨col', hO⟩ := ord_send O1.out hk2 (b := [byt i, byt 3]) (by simp) HH6.out HC6.out HB67.out HR8.out HC8.out
              exact ⟨col', _, _, _, _, _, _, Lib.hid hO, Lib.hid fun j hj => (HG.out j hj).trans (upd_got (by rfl) j).symm⟩
          · have ce := HO.out.sys.cell hk2
            obtain ⟨t, ht⟩ : ∃ t, t = 1 - k := ⟨_, rfl⟩
            have ht2 : t < 2 := by omega
            have htk : 1 - t = k := by omega
            have hk1 : (1 : Int) - (k : Int) = (t : Int) := by omega
            have hk1w : IntKind.i64.wrap (t : Int) = (t : Int) := by rw [IntKind.wrap_i64]; omega
            have HT := Lib.hid ht
            have HTK := Lib.hid htk
            clear ht htk
            rcases hmd with rfl | rfl
            all_goals
              go_wp2_with fail
              obtain ⟨q, HE, hc⟩ := HO.out.sys.ends k hk2
              have I := HO.out.inv.ends k hk2
              have hlen := HO.out.inv.len k hk2
              have hlen' := HO.out.inv.len (1 - k) (by omega)
              have hwl := I.waitLen
              refine (out_any (g k) (h k) i q (E k) w5 HE (by have := I.ack; have := I.og; omega) (by have := I.got; omega) (by rw [I.key]; exact hkey) I.win0 I.win (fun m hm => by have := HO.out.inv.msgs k hk2 m (by rw [I.wait] at hm; exact List.mem_of_mem_drop hm); omega) (by omega)).mono ?_
              rintro - w6 ⟨v6, vs6, rfl, ho6, hr6, H6, F6⟩
              obtain ⟨hH6, hC6⟩ := EndOk.step HE hc HO.out.sys.bel.size H6 (F6.mono (fun i hi => by simp at hi; simp [hi])) (.inl rfl)
              have hO6 := ord_end HO.out hk2 hH6 hC6 (Nat.le_refl i) (Nat.le_succ i) (HO.out.inv.end_ hk2 I.out (Nat.le_refl _) (Nat.le_succ i))
              have hR6 := RowAt.of_own (w := w) (col := col) ho6 hr6 (HO.out.sys.bel.size) w5.heap.size (Nat.le_refl _) k
              have hpk : ∀ p ∈ outF (E k), PkOk key (sent k) (E k).got p := I.packets (HO.out.inv.msgs k hk2)
              have hlL : (outF (E k)).length ≤ 16 := outF_len I.win
              have hpl := HO.out.inv.plen
              obtain ⟨A6, d6, rfl, hd6⟩ := hR6.form
              generalize outF (E k) = F at *
              have HR6 := Lib.hid hR6
              have HO6 := Lib.hid hO6
              have HPK := Lib.hid hpk
              have HPL := Lib.hid hpl
              clear hR6 hO6 hpk ho6 hr6 H6 F6 hH6 hC6 HE hc I hlen hlen' hwl ce hpl
              go_wp2_with fail
              go_loopw [10, 11, 17] (fun vp vt jv wr => ∃ (j : Nat) (col' : Nat → Nat) (Pj : List (List UInt8)) (Tj : List Int), j ≤ F.length ∧ jv = .int .i64 (j : Int) ∧ Hid (Pj.length = P.length + j) ∧ Hid (Ord w col' wr eb g h sb gb key (i + 1) (upd E k { E k with owe := false }) V sent Pj Tj vp vt G) ∧ Hid (RowAt w col' wr k (.slice A6 F.length d6) F)) (fun _ _ jv _ => F.length - (intOf jv).toNat)
              case atStart => exact ⟨0, _, P, T, by omega, rfl, Lib.hid rfl, HO6, HR6⟩
              case round =>
                clear HO6 HR6
                obtain ⟨j, col', Pj, Tj, hj, rfl, HPj, HOj, HRj⟩ := hrel
                by_cases hjl : j < F.length
                · have hji : (j : Int) < (F.length : Int) := by omega
                  have hji0 : (0 : Int) ≤ (j : Int) := by omega
                  obtain ⟨b, d', hv, hd', Ap, np, dp, M⟩ := HRj.out.get hjl
                  injection hv with e1 e2 e3
                  subst e1
                  subst e3
                  obtain ⟨Avp, dvp, rfl, -⟩ := HOj.out.prow.form
                  obtain ⟨Avt, dvt, rfl, -⟩ := HOj.out.trow.form
                  have cM := M.cell
                  have b7 : Below wr.heap.size wr (wr.alloc (.cells #[.slice Ap np dp] 33)) := (Below.refl _ wr).alloc (Nat.le_refl _) _
                  have hR7 := HOj.out.prow.ok b7
                  have hS7 : Sl (wr.alloc (.cells #[.slice Ap np dp] 33)) (.slice Ap np dp) (F[j]?.getD []) := ⟨_, _, _, rfl, M.le, M.byt.u8 (U8.bel b7)⟩
                  have hB7 : w.heap.size ≤ (wr.alloc (.cells #[.slice Ap np dp] 33)).heap.size := by have h1 := HOj.out.sys.bel.size; have h3 := b7.size; omega
                  have hc7 : (wr.alloc (.cells #[.slice Ap np dp] 33)).cell? ⟨wr.heap.size, 0, none⟩ = some (.slice Ap np dp) := (Blk.new wr 33 #[.slice Ap np dp]).at_ rfl
                  have hp := HPK.out (F[j]?.getD []) (by rw [List.getElem?_eq_getElem hjl]; exact List.getElem_mem _)
                  generalize F[j]?.getD [] = p at *
                  have HP := Lib.hid hp
                  have HR7 := Lib.hid hR7
                  have HS7 := Lib.hid hS7
                  have HB7 := Lib.hid hB7
                  have HC7 := Lib.hid hc7
                  have HB := Lib.hid b7
                  have HL7 := Lib.hid (show Pj.length ≤ 100000 by have := HPj.out; have := HPL.out; omega)
                  clear hp hR7 hS7 hB7 hc7 b7 M e2
                  go_upto_region 39 with (at_builtin; refine wpList_row rfl _ _ rfl HR7 rfl rfl HC7.out HS7 HB7.out HL7.out ?_; intro A8 d8 w8 HR8 HD8 HC8)
                  have b9 : Below w8.heap.size w8 (w8.alloc (.cells #[.int .i64 (t : Int)] 3)) := (Below.refl _ w8).alloc (Nat.le_refl _) _
                  have hT9 := ((HOj.out.trow.ok HB.out).other HC8.out (by omega)).ok b9
                  have hB9 : w.heap.size ≤ (w8.alloc (.cells #[.int .i64 (t : Int)] 3)).heap.size := by have h1 := HB7.out; have h2 := HC8.out.size; have h3 := b9.size; omega
                  have hc9 : (w8.alloc (.cells #[.int .i64 (t : Int)] 3)).cell? ⟨w8.heap.size, 0, none⟩ = some (.int .i64 (t : Int)) := (Blk.new w8 3 #[.int .i64 (t : Int)]).at_ rfl
                  have HT9 := Lib.hid hT9
                  have HB9 := Lib.hid hB9
                  have HC9 := Lib.hid hc9
                  have HB9b := Lib.hid b9
                  have HL9 := Lib.hid (show Tj.length ≤ 100000 by have := HPj.out; have := HPL.out; have := HOj.out.inv.tlen; omega)
                  clear hT9 hB9 hc9 b9 cM
                  go_wp2_with (at_builtin; refine wpList_ints rfl _ _ rfl HT9 rfl rfl HC9.out HB9.out HL9.out ?_; intro A10 d10 w10 HR10 HD10 HC10)
                  have hinv := HOj.out.inv.packet ht2 (p := p) (by rw [HTK.out, upd_at]; exact HP.out) (by have := HPj.out; have := HPL.out; omega)
                  have hOn := ord_pk HOj.out HB.out HR8.out HC8.out HB9b.out HR10.out HC10.out hinv
                  exact ⟨⟨j + 1, _, _, _, by omega, by go_num, Lib.hid (by have := HPj.out; simp; omega), Lib.hid hOn, Lib.hid ((((HRj.out.ok HB.out).other HC8.out (by omega)).ok HB9b.out).other HC10.out (by omega))⟩, by simp [intOf]; omega⟩
                · obtain rfl : j = F.length := by omega
                  have hji : ¬ (F.length : Int) < (F.length : Int) := by omega
                  go_wp2_with fail
                  go_meet
                  exact ⟨_, _, _, _, _, _, _, HOj, Lib.hid fun j hj => (HG.out j hj).trans (upd_got (by rfl) j).symm⟩
          · have hm0 : (md == 0) = false := by rw [beq_eq_false_iff_ne]; omega
            have hm1 : (md == 1) = false := by rw [beq_eq_false_iff_ne]; omega
            have hm2 : (md == 2) = false := by rw [beq_eq_false_iff_ne]; omega
            have hm3 : (md == 3) = false := by rw [beq_eq_false_iff_ne]; omega
            obtain ⟨Avp, dvp, rfl, hdvp⟩ := HO.out.prow.form
            obtain ⟨Avt, dvt, rfl, hdvt⟩ := HO.out.trow.form
            by_cases hP0 : P.length = 0
            · have hP0' : ((P.length : Int) == 0) = true := by rw [beq_iff_eq]; omega
              go_wp2_with fail
              exact ⟨⟨i + 1, _, _, _, _, _, _, _, by omega, by omega, by go_num, Lib.hid (HO.out.mono (Nat.le_succ i)), HG⟩, by simp [intOf]; omega⟩
            · have hPi : ((P.length : Int) == 0) = false := by rw [beq_eq_false_iff_ne]; omega
              have hPn : ¬ (P.length : Int) = 0 := by omega
              have hP1 : (0 : Int) < (P.length : Int) := by omega
              go_upto_region 16 with fail
              obtain ⟨j, hj⟩ := Int.eq_ofNat_of_zero_le (Int.emod_nonneg ((nn : Int) / 2) hPn)
              have hjlt := Int.emod_lt_of_pos ((nn : Int) / 2) hP1
              rw [hj] at hjlt ⊢
              have hjl : j < P.length := by omega
              have hjl0 : (0 : Int) ≤ (j : Int) := by omega
              have hjT : (j : Int) < (T.length : Int) := by have := HO.out.inv.tlen; omega
              obtain ⟨b6, d6, hv6, -, Ap, np, dp, M⟩ := HO.out.prow.get hjl
              injection hv6 with e1 e2 e3
              subst e1
              subst e3
              obtain ⟨bt, dt, hvt, -, cT⟩ := HO.out.trow.get (j := j) (by omega)
              injection hvt with e4 e5 e6
              subst e4
              subst e6
              obtain ⟨t, ht2, hTj, hpk⟩ := HO.out.inv.pk j (P[j]?.getD []) (by rw [List.getElem?_eq_getElem hjl]; rfl)
              rw [hTj, Option.getD_some] at cT
              have hti : (t : Int) < 2 := by omega
              have hti0 : (0 : Int) ≤ (t : Int) := by omega
              have lt1 := HO.out.inv.len t ht2
              have lt2 := HO.out.inv.len (1 - t) (by omega)
              obtain ⟨x', E', hF, hI', hg, hx'⟩ := (HO.out.inv.ends t ht2).in_ hpk (by omega) (by omega)
              have hS : ∀ W, Ok w5 W → W.cell? ⟨eb, t, none⟩ = some (.pointer (some ⟨g t, 0, none⟩)) ∧ W.cell? ⟨b6, j, none⟩ = some (.slice Ap np dp) := fun W hW => ⟨(HO.out.ok hW).sys.cell ht2, (M.ok hW).cell⟩
              have hgt : (E (1 - t)).got ≤ 1000000 := by
                have h4 := (HO.out.inv.ends (1 - t) (by omega)).got
                rw [show 1 - (1 - t) = t by omega] at h4
                omega
              have hnp : np ≤ 100000 := by
                have h1 := M.byt.1
                have h2 := hpk.len hgt (by omega)
                omega
              have hc6 := HO.out.prow.color rfl
              have hin : ∀ W, Ok w5 W → Calls Try.prog 19 #[.pointer (some ⟨g t, 0, none⟩), .slice Ap np dp] W fun e W' => ∃ A' d', e = .returned (.tuple #[.slice A' x'.length d', .int .i64 0]) ∧ Hid (Ord w (recol col W.heap.size t) W' eb g h sb gb key (i + 1) (upd E t E') V sent P T (.slice (some ⟨b6, 0, none⟩) P.length dvp) (.slice (some ⟨bt, 0, none⟩) T.length dvt) G) ∧ Hid (RowAt w (recol col W.heap.size t) W' t (.slice A' x'.length d') x') ∧ Hid (∀ W2, Ok W' W2 → W2.cell? ⟨eb, t, none⟩ = some (.pointer (some ⟨g t, 0, none⟩)) ∧ W2.cell? ⟨b6, j, none⟩ = some (.slice Ap np dp)) := fun W hW => (ord_in_calls (HO.out.ok hW) ht2 hF hI' hg (M.ok hW).byt.reads hnp M.le hkey (by omega)).mono fun e W' h1 => by
                obtain ⟨A', d', he, hO, hR, hC⟩ := h1
                refine ⟨A', d', he, hO, hR, Lib.hid fun W2 hW2 => ⟨(hO.out.ok hW2).sys.cell ht2, ?_⟩⟩
                have h2 := hC.cell (j := j) (M.ok hW).lt (by rw [hc6]; omega)
                rw [(M.ok hW).cell] at h2
                exact (Below.cell hW2 (World.block_lt_of_cell? _ _ h2)).trans h2
              have HS := Lib.hid hS
              have HIN := Lib.hid hin
              have HGE := Lib.hid hg
              have HXX := Lib.hid hx'
              have HGX := Lib.hid hI'.got
              clear hj hpk hF hI' hg hx' hS hin hTj M e2 e5 hdvp hdvt hgt hnp hc6
              have okw := Ok.refl w5
              have S0 := HS.out w5 okw
              have S1 := HS.out w5.drew okw.drew
              go_wp2_with fail
              go_region_held3 (fun W => W.cell? ⟨eb, t, none⟩ = some (.pointer (some ⟨g t, 0, none⟩)) ∧ W.cell? ⟨b6, j, none⟩ = some (.slice Ap np dp))
                (first | (refine HS.out _ ?_; (repeat (first | with_reducible assumption | with_reducible exact Ok.refl _ | with_reducible apply Ok.drew | with_reducible apply Ok.alloc | with_reducible apply Ok.drewN)); done) | (refine HS7.out _ ?_; (repeat (first | with_reducible assumption | with_reducible exact Ok.refl _ | with_reducible apply Ok.drew | with_reducible apply Ok.alloc | with_reducible apply Ok.drewN)); done))
                (first
                  | (go_at_call 19; (refine (HIN.out _ ?_).mono ?_); (focus ((repeat (first | with_reducible assumption | with_reducible exact Ok.refl _ | with_reducible apply Ok.drew | with_reducible apply Ok.alloc | with_reducible apply Ok.drewN)); done)); (rintro E7 w7 ⟨A7, d7, rfl, HO7, HR7, HS7⟩); (have ok77 := Ok.refl w7)))
              go_wp2_with fail
              have hO0 := HO7.out
              rw [← upd_self G t, HG.out t ht2, ← Nat.add_zero (E t).got] at hO0
              have HO0 := Lib.hid hO0
              obtain ⟨t', htt⟩ : ∃ t', t' = 1 - t := ⟨_, rfl⟩
              rw [← htt] at HXX HGX lt2
              have ht2' : t' < 2 := by omega
              have hti' : (t' : Int) < 2 := by omega
              have hti0' : (0 : Int) ≤ (t' : Int) := by omega
              have ht1 : (1 : Int) - (t : Int) = (t' : Int) := by omega
              have ht1w : IntKind.i64.wrap (t' : Int) = (t' : Int) := by rw [IntKind.wrap_i64]; omega
              have hxl : x'.length ≤ 1000 := by have h1 := HGX.out; have h2 := HGE.out; omega
              have HL1 := Lib.hid (And.intro lt1 lt2)
              clear hO0 htt S0 S1 cT lt1 lt2 okw ok77 HO7
              go_loopw [22] (fun rv wr => ∃ (r : Nat) (col' : Nat → Nat), r ≤ x'.length ∧ rv = .int .i64 (r : Int) ∧ Hid (Ord w col' wr eb g h sb gb key (i + 1) (upd E t E') V sent P T (.slice (some ⟨b6, 0, none⟩) P.length dvp) (.slice (some ⟨bt, 0, none⟩) T.length dvt) (upd G t ((E t).got + r))) ∧ Hid (RowAt w col' wr t (.slice A7 x'.length d7) x')) (fun rv _ => x'.length - (intOf rv).toNat)
              case atStart => exact ⟨0, _, by omega, rfl, HO0, HR7⟩
              case round =>
                clear HO0 HR7 HS7
                obtain ⟨r, col', hr, rfl, HOr, HRr⟩ := hrel
                by_cases hrl : r < x'.length
                · have hri : (r : Int) < (x'.length : Int) := by omega
                  have hri0 : (0 : Int) ≤ (r : Int) := by omega
                  obtain ⟨gg, hgg⟩ : ∃ gg, gg = (E t).got + r := ⟨_, rfl⟩
                  have hO8 := HOr.out
                  rw [← hgg] at hO8
                  have hxr := HXX.out r hrl
                  rw [← hgg] at hxr
                  have hgl : gg < (sent t').length := by
                    have h1 := HGX.out
                    have h2 := HGE.out
                    omega
                  obtain ⟨bx, dx, hvx, -, Ax, nx, cx, Mx⟩ := HRr.out.get hrl
                  injection hvx with e1 e2 e3
                  subst e1
                  subst e3
                  obtain ⟨bs, ds, hvs, -, As, ns, cs', Ms⟩ := (hO8.srow t' ht2').get hgl
                  have hsame : (sent t')[gg]?.getD [] = x'[r]?.getD [] := by rw [hxr]
                  rw [hsame] at Ms
                  have hmx : (x'[r]?.getD []).length ≤ 1000000000 := by
                    rw [hxr, List.getElem?_eq_getElem hgl, Option.getD_some]
                    have := hO8.inv.msgs t' ht2' _ (List.getElem_mem hgl)
                    omega
                  obtain ⟨sl, hsl⟩ : ∃ sl, sl = (sent t').length := ⟨_, rfl⟩
                  rw [← hsl] at hvs hgl
                  have hS : ∀ W, Ok wr W → (W.cell? ⟨gb, t, none⟩ = some (.int .i64 (gg : Int)) ∧ W.cell? ⟨sb, t', none⟩ = some (.slice (some ⟨bs, 0, none⟩) sl ds)) ∧ W.cell? ⟨bx, r, none⟩ = some (.slice Ax nx cx) ∧ W.cell? ⟨bs, gg, none⟩ = some (.slice As ns cs') := fun W hW => by
                    have hOW := hO8.ok hW
                    refine ⟨⟨?_, ?_⟩, (Mx.ok hW).cell, (Ms.ok hW).cell⟩
                    · rw [blk2_at hOW.gblk ht2, pick2 (fun k => Value.int .i64 ((upd G t gg k : Nat) : Int)) ht2, upd_at]
                    · rw [blk2_at hOW.sblk ht2', pick2 V ht2', hvs]
                  have hsm : ∀ m, Calls Try.prog 29 #[.slice Ax nx cx, .slice As ns cs'] (wr.drewN m) fun e W' => e = .returned (.bool true) ∧ ∃ m', W' = wr.drewN m' := fun m => Calls.quiet_of ((same_any Ax As nx ns cx cs' _ _ (wr.drewN m).heap.size (wr.drewN m) (Mx.ok (Ok.drewN (Ok.refl wr) m)).byt.reads (Ms.ok (Ok.drewN (Ok.refl wr) m)).byt.reads (by have := Mx.byt.1; omega) (by have := Ms.byt.1; omega)).mono fun e W' h1 => by
                    obtain ⟨he, hd⟩ := h1
                    exact ⟨by rw [he, decide_eq_true rfl], hd⟩)
                  have hge : decide (sl ≤ gg) = false := decide_eq_false (by omega)
                  have hge2 : (gg : Int) < (sl : Int) := by omega
                  have hgi0 : (0 : Int) ≤ (gg : Int) := by omega
                  have hgw : IntKind.i64.wrap ((gg : Int) + 1) = (gg : Int) + 1 := by have h1 := HL1.out.2; rw [IntKind.wrap_i64]; omega
                  have HSM := Lib.hid hsm
                  have HGG := Lib.hid hgg
                  have HO8 := Lib.hid hO8
                  have HS := Lib.hid hS
                  obtain ⟨⟨S0a, S0b⟩, S0c, S0d⟩ := hS wr (Ok.refl wr)
                  clear hS hsm hgg hO8 hxr hvs hsl Mx Ms hmx hsame e2 hgl
                  go_wp2_with fail
                  go_quiet (first | (go_at_call 29; exact HSM.out _))
                  have ok9 : Ok wr (wr.drewN nq) := Ok.drewN (Ok.refl wr) nq
                  generalize wr.drewN nq = w9 at *
                  have hO9 := HO8.out.ok ok9
                  have c9 : w9.cell? ⟨gb, t, none⟩ = some (.int .i64 (gg : Int)) := (HS.out w9 ok9).1.1
                  have f9 := hO9.gblk.frozen t
                  have HO9 := Lib.hid hO9
                  have HR9 := Lib.hid (HRr.out.ok ok9)
                  clear hO9
                  go_wp2_with fail
                  have hOn := ord_got HO9.out ht2 (gg + 1)
                  rw [upd_upd] at hOn
                  have C9 := chg_set (w := w) (col := col') HO9.out.gblk (by decide) HO9.out.glow t (.int .i64 ((gg + 1 : Nat) : Int))
                  rw [HO9.out.gcol] at C9
                  have hRn := HR9.out.other C9 (by omega)
                  have eg : gg + 1 = (E t).got + (r + 1) := by have := HGG.out; omega
                  rw [eg] at hOn hRn
                  have ez : ((((E t).got + (r + 1) : Nat) : Int)) = (gg : Int) + 1 := by omega
                  rw [ez] at hOn hRn
                  exact ⟨⟨r + 1, _, by omega, by go_num, Lib.hid hOn, Lib.hid hRn⟩, by simp [intOf]; omega⟩
                · obtain rfl : r = x'.length := by omega
                  have hri : ¬ (x'.length : Int) < (x'.length : Int) := by omega
                  go_wp2_with fail
                  go_meet
                  exact ⟨_, _, _, _, _, _, _, HOr, Lib.hid fun k hk => by
                    unfold upd
                    split
                    · exact HGE.out.symm
                    · exact HG.out k hk⟩
        obtain ⟨col2, E2, V2, sent2, P2, T2, G2, HO2, HG2⟩ := hcut
        clear HO HG HX HCX hl
        go_wp2_with fail
        go_loopw [23] (fun v wr => ∃ j : Nat, j ≤ 2 ∧ v = .int .i64 (j : Int) ∧ Hid (Ord w col2 wr eb g h sb gb key (i + 1) E2 V2 sent2 P2 T2 u10 u11 G2)) (fun v _ => 2 - (intOf v).toNat)
        case atStart => exact ⟨0, by omega, rfl, HO2⟩
        case round =>
          clear HO2
          obtain ⟨j, hj, rfl, HOj⟩ := hrel
          by_cases hjl : j < 2
          · have hji : (j : Int) < 2 := by omega
            have hji0 : (0 : Int) ≤ (j : Int) := by omega
            obtain ⟨t', htt⟩ : ∃ t', t' = 1 - j := ⟨_, rfl⟩
            have ht2' : t' < 2 := by omega
            have hti' : (t' : Int) < 2 := by omega
            have hti0' : (0 : Int) ≤ (t' : Int) := by omega
            have ht1 : (1 : Int) - (j : Int) = (t' : Int) := by omega
            have ht1w : IntKind.i64.wrap (t' : Int) = (t' : Int) := by rw [IntKind.wrap_i64]; omega
            obtain ⟨q, HE, -⟩ := HOj.out.sys.ends j hjl
            have I := HOj.out.inv.ends j hjl
            have hwl := I.waitLen
            have hlen := HOj.out.inv.len j hjl
            have hack := I.ack
            have hog := I.og
            have hfo := I.forg
            rw [← htt, ← HG2.out t' ht2'] at hack hog
            obtain ⟨Aj, dj, hVj, -⟩ := (HOj.out.srow j hjl).form
            obtain ⟨wl, hwle⟩ : ∃ wl, wl = (E2 j).wait.length := ⟨_, rfl⟩
            obtain ⟨sl, hsl⟩ : ∃ sl, sl = (sent2 j).length := ⟨_, rfl⟩
            obtain ⟨gg, hgg⟩ : ∃ gg, gg = G2 t' := ⟨_, rfl⟩
            have hwa : ∀ W, Ok wr W → Calls Try.prog 21 #[.pointer (some ⟨g j, 0, none⟩)] W fun e W' => e = .returned (.int .i64 (wl : Int)) ∧ W' = W := fun W hW => by
              rw [hwle]
              exact waiting_any _ _ _ _ _ _ (HE.bel hW)
            have hfa : ∀ W, Ok wr W → Calls Try.prog 22 #[.pointer (some ⟨g j, 0, none⟩)] W fun e W' => e = .returned (.int .i64 0) ∧ W' = W := fun W hW => by
              have h1 := forged_any _ _ _ _ _ _ (HE.bel hW)
              rw [hfo] at h1
              exact h1
            have hS : ∀ W, Ok wr W → W.cell? ⟨eb, j, none⟩ = some (.pointer (some ⟨g j, 0, none⟩)) ∧ W.cell? ⟨sb, j, none⟩ = some (.slice Aj sl dj) ∧ W.cell? ⟨gb, t', none⟩ = some (.int .i64 (gg : Int)) := fun W hW => by
              have hOW := HOj.out.ok hW
              refine ⟨hOW.sys.cell hjl, ?_, ?_⟩
              · rw [blk2_at hOW.sblk hjl, pick2 V2 hjl, hVj, hsl]
              · rw [blk2_at hOW.gblk ht2', pick2 (fun k => Value.int .i64 ((G2 k : Nat) : Int)) ht2', hgg]
            rw [← hwle, ← hsl] at hwl
            rw [← hsl] at hlen hog
            rw [← hgg] at hack hog
            have d1 : decide (sl < wl) = false := decide_eq_false (by omega)
            have d1' : (wl : Int) ≤ (sl : Int) := by omega
            have hsw : IntKind.i64.wrap ((sl : Int) - (gg : Int)) = (sl : Int) - (gg : Int) := by rw [IntKind.wrap_i64]; omega
            have d2 : decide ((wl : Int) < (sl : Int) - (gg : Int)) = false := decide_eq_false (by omega)
            obtain ⟨S1a, S1b, S1c⟩ := hS wr (Ok.refl wr)
            have hwq := fun n => Calls.quiet_of_same (hwa (wr.drewN n) (Ok.drewN (Ok.refl wr) n))
            have hfq := fun n => Calls.quiet_of_same (hfa (wr.drewN n) (Ok.drewN (Ok.refl wr) n))
            have HWQ := Lib.hid hwq
            have HFQ := Lib.hid hfq
            clear hS hwa hfa hwle hsl hgg hfo I HE hVj htt hwq hfq
            go_wp2_with fail
            go_quiet (first
              | (go_at_call 21; exact HWQ.out _)
              | (go_at_call 22; exact HFQ.out _))
            go_wp2_with fail
            exact ⟨⟨j + 1, by omega, by go_num, Lib.hid (HOj.out.ok (Ok.drewN (Ok.refl wr) _))⟩, by simp [intOf]; omega⟩
          · obtain rfl : j = 2 := by omega
            have hji : ¬ ((2 : Nat) : Int) < 2 := by omega
            go_wp2_with fail
            exact ⟨⟨i + 1, _, _, _, _, _, _, _, by omega, by omega, by go_num, HOj, HG2⟩, by simp [intOf]; omega⟩
      · obtain rfl : i = 80 := by omega
        have hji : ((80 : Nat) : Int) < (n : Int) := by omega
        have hji8 : ¬ ((80 : Nat) : Int) < 80 := by omega
        go_wp2_with fail
        refine (lives_any wr).mono ?_
        rintro - w30 ⟨rfl, b30⟩
        go_wp2_with fail
        go_ret
        exact ⟨rfl, below_next HO.out.sys.bel b30⟩
    · have hji : ¬ (i : Int) < (n : Int) := by omega
      go_wp2_with fail
      refine (lives_any wr).mono ?_
      rintro - w30 ⟨rfl, b30⟩
      go_wp2_with fail
      go_ret
      exact ⟨rfl, below_next HO.out.sys.bel b30⟩
end Go.Proofs.Ytbekkndkdfmijaa
