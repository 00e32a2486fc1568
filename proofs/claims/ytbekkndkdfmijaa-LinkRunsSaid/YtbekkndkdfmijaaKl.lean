/- An end of a link: In. Conditions: the numbers are small. -/
import Derived.Test.YtbekkndkdfmijaaKk
set_option linter.unusedSimpArgs false
set_option linter.unusedVariables false
namespace Go.Proofs.Ytbekkndkdfmijaa
open Go.RowKit

/-- what a packet that was read does, and the messages that it delivers -/
def inAck (E : EndV) (a : Int) : EndV := if (E.ack : Int) < a then { E with wait := E.wait.drop (a - (E.ack : Int)).toNat, ack := a.toNat } else E
def inPut (E : EndV) (s : Int) (b : List UInt8) : EndV := if (E.got : Int) < s ∧ E.held s = none then { E with held := fun k => if k = s then some b else E.held k } else E
def inRun (E : EndV) : List (List UInt8) × EndV := (runD E.held 17 E.got, { E with got := E.got + (runD E.held 17 E.got).length, held := cutH E.held E.got (runD E.held 17 E.got).length })
def inP (E : EndV) (s a : Int) (b : List UInt8) : List (List UInt8) × EndV :=
  if (E.ack : Int) + (E.wait.length : Int) < a ∨ (E.got : Int) + 16 < s then ([], E)
  else if s = 0 then ([], inAck E a) else inRun (inPut { inAck E a with owe := true } s b)
/-- what In does -/
def inF (E : EndV) (l : List UInt8) : List (List UInt8) × Nat × EndV :=
  match openL E.key l with
  | .error e => ([], e, if e = 9 then { E with forg := E.forg + 1 } else E)
  | .ok core => match readP core with
    | none => ([], 2, E)
    | some (s, a, b) => ((inP E s a b).1, 0, (inP E s a b).2)
theorem open_err {k : Nat} {l : List UInt8} {e : Nat} (h : openL k l = .error e) : e = 2 ∨ e = 9 := by
  unfold openL at h
  split at h
  · left; injection h with h; exact h.symm
  · split at h
    · cases h
    · right; injection h with h; exact h.symm
theorem read_ok {l b : List UInt8} {s a : Int} (h : readP l = some (s, a, b)) : 0 ≤ s ∧ 0 ≤ a := by
  unfold readP at h
  cases hD : decL decI l with
  | error e => rw [hD] at h; cases h
  | ok p =>
    obtain ⟨xs, n⟩ := p
    rw [hD] at h
    dsimp only at h
    split at h
    · rename_i s' a'
      cases hB : decB (l.drop n) with
      | error e => rw [hB] at h; cases h
      | ok q =>
        obtain ⟨bb, m⟩ := q
        rw [hB] at h
        dsimp only at h
        split at h
        · rename_i hc
          injection h with h
          injection h with h1 h2
          injection h2 with h2 h3
          subst h1 h2 h3
          have := hc.2
          unfold pktOk at this
          simp only [Bool.and_eq_true, decide_eq_true_eq] at this
          exact ⟨this.1.1.1, this.1.1.2⟩
        · cases h
    · cases h
theorem open_len {k : Nat} {l r : List UInt8} (h : openL k l = .ok r) : r.length ≤ l.length := by
  unfold openL at h
  split at h
  · cases h
  · split at h
    · injection h with h
      rw [← h, List.length_take]
      omega
    · cases h
theorem reads_fr {w w' : World} {B size n : Nat} {A : Option Addr} {xs : List Value} {S : List Nat} (h : Reads w B size A n xs) (hB : B ≤ w.heap.size) (k : Fr S w w') (hA : ∀ ad, A = some ad → ad.block ∉ S) : Reads w' B size A n xs := by
  refine ⟨h.1, fun hn => ?_⟩
  obtain ⟨ad, e, hb, hc⟩ := h.2 hn
  exact ⟨ad, e, hb, fun j u hu => (World.cell?_of_block (w := w) (by rw [block_add]; exact k.block _ (by omega) (hA ad e))).trans (hc j u hu)⟩
theorem end_set7 {w : World} {g h N : Nat} {q : Option Nat} {E : EndV} (H : EndAt w g q h N E) (b : Nat) : EndAt (w.setCell ⟨g, 7, none⟩ (.int .i64 (b : Int))) g q h N { E with forg := b } := by
  have hap := end_apart H
  obtain ⟨A, n, c, vs, D, h1, h2, h3, h4, h5, h6, h7⟩ := H
  have u := U8.set h1 (by decide) 7 (.int .i64 (b : Int))
  exact ⟨A, n, c, vs, D, h1.set_ 7 (.int .i64 (b : Int)), h2, own_fr h3 ((Fr.refl [g] w).setCell (p := ⟨g, 7, none⟩) (.inl (by simp)) _) (fun i e hm => by rw [h4] at e; simp at hm; exact (hap.2 i e).1 hm), h4, h5.u8 u, h6.setCell (a := ⟨g, 7, none⟩) hap.1 _, h7.u8 u⟩
theorem end_set3 {w : World} {g h N : Nat} {q : Option Nat} {E : EndV} (H : EndAt w g q h N E) (b : Nat) : EndAt (w.setCell ⟨g, 3, none⟩ (.int .i64 (b : Int))) g q h N { E with ack := b } := by
  have hap := end_apart H
  obtain ⟨A, n, c, vs, D, h1, h2, h3, h4, h5, h6, h7⟩ := H
  have u := U8.set h1 (by decide) 3 (.int .i64 (b : Int))
  exact ⟨A, n, c, vs, D, h1.set_ 3 (.int .i64 (b : Int)), h2, own_fr h3 ((Fr.refl [g] w).setCell (p := ⟨g, 3, none⟩) (.inl (by simp)) _) (fun i e hm => by rw [h4] at e; simp at hm; exact (hap.2 i e).1 hm), h4, h5.u8 u, h6.setCell (a := ⟨g, 3, none⟩) hap.1 _, h7.u8 u⟩
/-- what In leaves -/
def InPost (w : World) (g h N : Nat) (q : Option Nat) (R : List (List UInt8) × Nat × EndV) (e : Ending) (W' : World) : Prop :=
  ∃ v vs, e = .returned (.tuple #[v, .int .i64 (R.2.1 : Int)]) ∧ W'.ownsRow w.heap.size 33 1 v vs.length vs ∧ Rws W' vs R.1 ∧ EndAt W' g q h (N + 1) R.2.2 ∧ Fr (g :: h :: q.toList) w W'
theorem inPost_nil {w W' : World} {g h N e : Nat} {q : Option Nat} {E : EndV} {en : Ending} (he : en = .returned (.tuple #[.slice none 0 0, .int .i64 (e : Int)])) (H : EndAt W' g q h N E) (hf : Fr (g :: h :: q.toList) w W') : InPost w g h N q ([], e, E) en W' :=
  ⟨_, [], he, World.ownsRow_nil _ _ _ _, Rws.nil_ _, H.mono (by omega), hf⟩
set_option maxRecDepth 100000 in
set_option maxHeartbeats 16000000 in
theorem in_any (g h N : Nat) (q : Option Nat) (E : EndV) (A : Option Addr) (n c : Nat) (l : List UInt8) (w : World) (H : EndAt w g q h N E) (hl : Reads w w.heap.size 1 A n (bytesV l)) (hn : n ≤ 100000) (hnc : n ≤ c) (hkey : E.key < 18446744073709551616)
    (hack : E.ack ≤ 1000000) (hgot : E.got ≤ 1000000) (hforg : E.forg ≤ 1000000) (hwl : E.wait.length ≤ 1000) (hN : N ≤ 1000000) (hkeys : ∀ k l, E.held k = some l → k ≤ (E.got : Int) + 16) :
    Calls Try.prog 19 #[.pointer (some ⟨g, 0, none⟩), .slice A n c] w (InPost w g h N q (inF E l)) := by
  have el := hl.byte_len
  have hap := end_apart H
  have hlt := H.lt
  have hgl := hlt g (by simp)
  have H0 := H
  obtain ⟨B, m, d, vs, D, k, hm, ho, hq, hr, hM, hH⟩ := H
  have c1 : w.cell? ⟨g, 1, none⟩ = some (.int .u64 (E.key : Int)) := k.at_ rfl
  have hop := wOpen_any E.key A n c l w hkey hl hn hnc
  have HOP := Lib.hid hop
  have hdef : inF E l = (match openL E.key l with
    | .error e => ([], e, if e = 9 then { E with forg := E.forg + 1 } else E)
    | .ok core => match readP core with
      | none => ([], 2, E)
      | some (s, a, b) => ((inP E s a b).1, 0, (inP E s a b).2)) := rfl
  have HMW := Lib.hid hm
  clear hop hm
  obtain ⟨R, hR⟩ : ∃ R, R = inF E l := ⟨_, rfl⟩
  rw [← hR] at hdef ⊢
  have HDEF := Lib.hid hdef
  clear hR hdef
  go_enter Try.func19, Try.ntmps19
  go_wp2_with fail
  refine HOP.out.mono ?_
  rintro E0 w1 ⟨⟨v, rfl, hv⟩, hb⟩
  have k1 := k.ok hb
  have H1 := H0.bel hb
  have hdef := HDEF.out
  clear HDEF
  cases hO : openL E.key l with
  | error e =>
    rw [hO] at hdef
    dsimp only at hdef
    simp only [retO]
    have c7 : w1.cell? ⟨g, 7, none⟩ = some (.int .i64 (E.forg : Int)) := k1.at_ rfl
    have f7 := k1.frozen 7
    rcases open_err hO with rfl | rfl
    · rw [if_neg (by decide)] at hdef
      have HD := Lib.hid hdef
      clear hdef
      go_wp2_with fail
      go_ret2
      rw [HD.out]
      exact inPost_nil rfl H1 (Fr.of_below hb _)
    · rw [if_pos rfl] at hdef
      have HD := Lib.hid hdef
      clear hdef
      have H7 := end_set7 H1 (E.forg + 1)
      have F7 := (Fr.of_below hb (g :: h :: q.toList)).setCell (p := ⟨g, 7, none⟩) (.inl (by simp)) (.int .i64 ((E.forg + 1 : Nat) : Int))
      have HH := Lib.hid (And.intro H7 F7)
      clear H7 F7
      have e1 : ((E.forg + 1 : Nat) : Int) = (E.forg : Int) + 1 := by omega
      rw [e1] at HH
      go_wp2_with fail
      go_ret2
      rw [HD.out]
      exact inPost_nil rfl HH.out.1 HH.out.2
  | ok core =>
    rw [hO] at hdef
    dsimp only at hdef
    simp only [retO]
    have HDEF := Lib.hid hdef
    clear hdef
    have hcl := open_len hO
    have ho1 := hv core hO
    obtain ⟨A1, c1', rfl, hnc1, -, -⟩ := own_slice ho1
    have hrd := wRead_any A1 core.length c1' core w1 (Reads.of_own ho1) (by omega) hnc1
    have HRD := Lib.hid hrd
    clear hrd ho1 hv hO
    go_wp2_with fail
    refine HRD.out.mono ?_
    rintro E1 w2 ⟨⟨s, a, X, y, z, b, rfl, hp, hper, hyz, hsI, haI, hbl, hXb⟩, hb2⟩
    have hbB := below_next hb hb2
    clear HRD
    cases hP : readP core with
    | none =>
      have hdef := HDEF.out
      rw [hP] at hdef
      dsimp only at hdef
      have HD := Lib.hid hdef
      clear hdef HDEF hp
      simp only [Option.isSome]
      go_wp2_with fail
      go_ret2
      rw [HD.out]
      have hbC := hbB.alloc hbB.size (.cells #[.int .i64 s, .int .i64 a, .slice X y z] 68)
      exact inPost_nil rfl (H0.bel hbC) (Fr.of_below hbC _)
    | some p =>
      obtain rfl := hp p hP
      have hdef := HDEF.out
      rw [hP] at hdef
      dsimp only at hdef
      have HD := Lib.hid hdef
      clear hdef HDEF hp
      simp only [Option.isSome]
      have kp : Blk (w2.alloc (.cells #[.int .i64 s, .int .i64 a, .slice X y z] 68)) w2.heap.size 68 #[.int .i64 s, .int .i64 a, .slice X y z] := Blk.new w2 68 _
      have hbC := hbB.alloc hbB.size (.cells #[.int .i64 s, .int .i64 a, .slice X y z] 68)
      have hpr := Lib.hid (hper.out _ ((Ok.refl w2).alloc (.cells #[.int .i64 s, .int .i64 a, .slice X y z] 68)))
      go_wp2_with fail
      have hgp : w.heap.size ≤ w2.heap.size := hbB.size
      have hXw : Hid (∀ ad, X = some ad → w.heap.size ≤ ad.block) := Lib.hid (fun ad e => Nat.le_trans hb.size (hXb.out ad e))
      generalize w2.alloc (.cells #[.int .i64 s, .int .i64 a, .slice X y z] 68) = w3 at *
      generalize w2.heap.size = gp at *
      clear hb hb2 hbB hper k1 H1
      have k3 := k.ok hbC
      have H3 := H0.bel hbC
      have p0 : w3.cell? ⟨gp, 0, none⟩ = some (.int .i64 s) := kp.at_ rfl
      have p1 : w3.cell? ⟨gp, 1, none⟩ = some (.int .i64 a) := kp.at_ rfl
      have p2 : w3.cell? ⟨gp, 2, none⟩ = some (.slice X y z) := kp.at_ rfl
      have q2 : w3.cell? ⟨g, 2, none⟩ = some (.slice B m d) := k3.at_ rfl
      have q3 : w3.cell? ⟨g, 3, none⟩ = some (.int .i64 (E.ack : Int)) := k3.at_ rfl
      have q4 : w3.cell? ⟨g, 4, none⟩ = some (.int .i64 (E.got : Int)) := k3.at_ rfl
      have hmw := HMW.out
      have w1a : IntKind.i64.wrap ((E.ack : Int) + (m : Int)) = (E.ack : Int) + (m : Int) := by rw [IntKind.wrap_i64]; omega
      have w1b : IntKind.i64.wrap ((E.got : Int) + 16) = (E.got : Int) + 16 := by rw [IntKind.wrap_i64]; omega
      by_cases ha : (E.ack : Int) + (m : Int) < a
      · have hF : R = ([], 0, E) := by rw [HD.out]; unfold inP; rw [if_pos (.inl (by omega))]
        have HF := Lib.hid hF
        clear hF HD hmw
        go_quiet (fail)
        go_wp2_with fail
        go_ret2
        rw [HF.out]
        exact inPost_nil rfl (H3.bel (below_drewN' (Below.refl _ _) _)) ((Fr.of_below hbC _).drewN _)
      · have hd1 : decide ((E.ack : Int) + (m : Int) < a) = false := decide_eq_false ha
        by_cases hs : (E.got : Int) + 16 < s
        · have hF : R = ([], 0, E) := by rw [HD.out]; unfold inP; rw [if_pos (.inr hs)]
          have HF := Lib.hid hF
          clear hF HD hmw
          go_quiet (fail)
          go_wp2_with fail
          go_ret2
          rw [HF.out]
          exact inPost_nil rfl (H3.bel (below_drewN' (Below.refl _ _) _)) ((Fr.of_below hbC _).drewN _)
        · have hF : R = (if s = 0 then ([], 0, inAck E a) else ((inRun (inPut { inAck E a with owe := true } s b)).1, 0, (inRun (inPut { inAck E a with owe := true } s b)).2)) := by
            rw [HD.out]; unfold inP; rw [if_neg (by omega)]
            by_cases h0 : s = 0
            · rw [if_pos h0, if_pos h0]
            · rw [if_neg h0, if_neg h0]
          have HF := Lib.hid hF
          clear hF HD hmw
          go_quiet (fail)
          have hpk := read_ok hP
          have ha0 : 0 ≤ a := hpk.2
          obtain ⟨α, rfl⟩ := Int.eq_ofNat_of_zero_le ha0
          have hα : (α : Int) ≤ 2000000 := by have := HMW.out; omega
          have F4 : Fr (g :: h :: q.toList) w (w3.drewN nq) := (Fr.of_below hbC _).drewN nq
          have H4 : EndAt (w3.drewN nq) g q h N E := H3.bel (below_drewN' (Below.refl _ _) nq)
          have kp4 := kp.drewN nq
          have k4 := k3.drewN nq
          have r4 : Hid (Reads (w3.drewN nq) (w3.drewN nq).heap.size 1 X y (bytesV b)) := hpr
          clear p0 p1 p2 q2 q3 q4 hbC H3 kp k3 hpr
          generalize w3.drewN nq = w4 at *
          have p1 : w4.cell? ⟨gp, 1, none⟩ = some (.int .i64 (α : Int)) := kp4.at_ rfl
          have q3 : w4.cell? ⟨g, 3, none⟩ = some (.int .i64 (E.ack : Int)) := k4.at_ rfl
          go_wp2_with fail
          by_cases hA : E.ack < α
          · obtain ⟨κ, hκ⟩ : ∃ κ : Nat, κ = α - E.ack := ⟨_, rfl⟩
            have w1c : IntKind.i64.wrap ((α : Int) - (E.ack : Int)) = (κ : Int) := by rw [IntKind.wrap_i64]; omega
            have hκ0 : (0 : Int) < (κ : Int) := by omega
            obtain ⟨F, hFd⟩ : ∃ F, F = inAck E (α : Int) := ⟨_, rfl⟩
            have hFe : F = { E with wait := E.wait.drop κ, ack := α } := by
              rw [hFd]
              unfold inAck
              rw [if_pos (by omega)]
              congr 2
              omega
            have HFT : Hid (R = (if s = 0 then ([], 0, F) else ((inRun (inPut { F with owe := true } s b)).1, 0, (inRun (inPut { F with owe := true } s b)).2))) := Lib.hid (by rw [hFd]; exact HF.out)
            have HFE := Lib.hid hFe
            have HFH : Hid (F.got = E.got ∧ F.held = E.held) := Lib.hid (by rw [hFe]; exact ⟨rfl, rfl⟩)
            have hκm : κ ≤ m := by have := HMW.out; omega
            have HK := Lib.hid hκ
            clear HF hκ hFd hFe
            go_quiet (fail)
            have F5 : Fr (g :: h :: q.toList) w (w4.drewN nq) := F4.drewN nq
            have H5 : EndAt (w4.drewN nq) g q h N E := H4.bel (below_drewN' (Below.refl _ _) nq)
            have kp5 := kp4.drewN nq
            have r5 : Hid (Reads (w4.drewN nq) (w4.drewN nq).heap.size 1 X y (bytesV b)) := r4
            clear p1 q3 F4 H4 kp4 k4 r4
            generalize w4.drewN nq = w5 at *
            obtain ⟨B5, m5, d5, vs5, D5, k5, hm5, ho5, hq5, hr5, hM5, hH5⟩ := id H5
            have hmm5 : m5 = m := by rw [hm5]; exact HMW.out.symm
            obtain ⟨b5, c5, hv5, -, -⟩ := ho5.form (by omega)
            injection hv5 with e51 e52 e53
            subst e51
            subst e53
            clear e52
            have t2 : w5.cell? ⟨g, 2, none⟩ = some (.slice (some ⟨b5, 0, none⟩) m5 d5) := k5.at_ rfl
            have hm5b : m5 ≤ 1000000 := by have := HMW.out; omega
            have HM5 := Lib.hid hm5
            have HMM := Lib.hid hmm5
            clear hm5 hmm5
            go_wp2_with fail
            refine (del_any b5 m5 d5 κ vs5 w5 ho5 hr5.one (by omega) (by have := HMM.out; omega) hm5b).mono ?_
            rintro E6 w6 ⟨rfl, ho6, hf6⟩
            have hb5g : g ≠ b5 := fun e => (hap.2 b5 (by rw [← hq5]; rfl)).1 e.symm
            have hb5h : h ≠ b5 := fun e => (hap.2 b5 (by rw [← hq5]; rfl)).2 e.symm
            have hb5l := hlt b5 (by rw [← hq5]; simp [Value.ownBlock])
            have u6 : U8 w5 w6 := hf6.u8 (fun k hk => by simp at hk; rw [hk]; exact own_not_u8 ho5 (by decide) b5 rfl)
            have k6 := k5.fr hf6 (by simpa using hb5g)
            have kp6 := kp5.fr hf6 (by simp; omega)
            have s2 : w6.cell? ⟨g, 2, none⟩ = some (.slice (some ⟨b5, 0, none⟩) m5 d5) := k6.at_ rfl
            have f2 := k6.frozen 2
            have s1 : w6.cell? ⟨gp, 1, none⟩ = some (.int .i64 (α : Int)) := kp6.at_ rfl
            have u7 : U8 w6 (w6.setCell ⟨g, 2, none⟩ (.slice (some ⟨b5, 0, none⟩) (m5 - κ) d5)) := U8.set k6 (by decide) 2 _
            have hlen : m5 - κ = (E.wait.drop κ).length := by rw [List.length_drop, HM5.out]
            have hfg := (Fr.refl [g] w6).setCell (p := ⟨g, 2, none⟩) (.inl (by simp)) (.slice (some ⟨b5, 0, none⟩) (m5 - κ) d5)
            have H7 : EndAt (w6.setCell ⟨g, 2, none⟩ (.slice (some ⟨b5, 0, none⟩) (m5 - κ) d5)) g q h N { E with wait := E.wait.drop κ } :=
              ⟨some ⟨b5, 0, none⟩, m5 - κ, d5, _, D5, k6.set_ 2 (.slice (some ⟨b5, 0, none⟩) (m5 - κ) d5), hlen, own_fr ho6 hfg (fun i e hm => by cases e; simp at hm; exact hb5g hm.symm), hq5, (hr5.u8 (u6.trans u7)).drop κ, map_fr (map_fr hM5 hf6 (by simpa using hb5h)) hfg (by simp; exact hap.1), hH5.u8 (u6.trans u7)⟩
            have kp7 := kp6.far (p := ⟨g, 2, none⟩) (show gp ≠ g by omega) (.slice (some ⟨b5, 0, none⟩) (m5 - κ) d5)
            have F7 : Fr (g :: h :: q.toList) w (w6.setCell ⟨g, 2, none⟩ (.slice (some ⟨b5, 0, none⟩) (m5 - κ) d5)) := (F5.next hf6 (fun i hi => .inl (by simp at hi; rw [hi, ← hq5]; simp [Value.ownBlock]))).setCell (p := ⟨g, 2, none⟩) (.inl (by simp)) _
            have r7 := reads_fr (reads_fr r5.out (Nat.le_refl _) hf6 (fun ad e hm => by have := hXw.out ad e; simp at hm; omega)) hf6.size hfg (fun ad e hm => by have := hXw.out ad e; simp at hm; omega)
            have s7 : (w6.setCell ⟨g, 2, none⟩ (.slice (some ⟨b5, 0, none⟩) (m5 - κ) d5)).cell? ⟨gp, 1, none⟩ = some (.int .i64 (α : Int)) := kp7.at_ rfl
            have R7 := Lib.hid (r7.more (B' := (w6.setCell ⟨g, 2, none⟩ (.slice (some ⟨b5, 0, none⟩) (m5 - κ) d5)).heap.size) (by have := hf6.size; simp [World.setCell]; omega))
            have HH7 := Lib.hid (And.intro H7 (And.intro kp7 F7))
            clear H7 kp7 F7 r7 hfg u7 ho6 hf6 hr5 hM5 hH5 ho5 u6 hlen H5 kp5 r5 F5 k5
            obtain ⟨B7, m7, d7, v7, D7, k7, -⟩ := id HH7.out.1
            have t3 : (w6.setCell ⟨g, 2, none⟩ (.slice (some ⟨b5, 0, none⟩) (m5 - κ) d5)).cell? ⟨g, 3, none⟩ = some (.int .i64 (E.ack : Int)) := k7.at_ rfl
            have f3 := k7.frozen 3
            have f23 := k6.frozen 3
            have t63 : w6.cell? ⟨g, 3, none⟩ = some (.int .i64 (E.ack : Int)) := k6.at_ rfl
            go_upto_region 15 with fail
            obtain ⟨H7, kp7, F7⟩ := HH7.out
            have HT : EndAt ((w6.setCell ⟨g, 2, none⟩ (.slice (some ⟨b5, 0, none⟩) (m5 - κ) d5)).setCell ⟨g, 3, none⟩ (.int .i64 (α : Int))) g q h N F := by rw [HFE.out]; exact end_set3 H7 α
            have FT := F7.setCell (p := ⟨g, 3, none⟩) (.inl (by simp)) (.int .i64 (α : Int))
            have kpT := kp7.far (p := ⟨g, 3, none⟩) (show gp ≠ g by omega) (.int .i64 (α : Int))
            have rT := Lib.hid ((reads_fr R7.out (Nat.le_refl _) ((Fr.refl [g] _).setCell (p := ⟨g, 3, none⟩) (.inl (by simp)) (.int .i64 (α : Int))) (fun ad e hm => by have := hXw.out ad e; simp at hm; omega)).more (B' := ((w6.setCell ⟨g, 2, none⟩ (.slice (some ⟨b5, 0, none⟩) (m5 - κ) d5)).setCell ⟨g, 3, none⟩ (.int .i64 (α : Int))).heap.size) (by simp [World.setCell]))
            clear H7 kp7 F7 HH7 R7 t3 f3 s7 k7 k6 kp6 s2 f2 s1 t2 f23 t63
            generalize (w6.setCell ⟨g, 2, none⟩ (.slice (some ⟨b5, 0, none⟩) (m5 - κ) d5)).setCell ⟨g, 3, none⟩ (.int .i64 (α : Int)) = wT at *
            -- the tail
            have pT0 : wT.cell? ⟨gp, 0, none⟩ = some (.int .i64 s) := kpT.at_ rfl
            by_cases h0 : s = 0
            · subst h0
              have HFT := Lib.hid (HFT.out.trans (if_pos rfl))
              go_wp2_with fail
              go_ret2
              rw [HFT.out]
              exact inPost_nil rfl HT FT
            · have hs0 : (s == 0) = false := by simpa using h0
              have HFT := Lib.hid (HFT.out.trans (if_neg h0))
              obtain ⟨BT, mT, dT, vT, DT, kT, -⟩ := id HT
              have t6 : wT.cell? ⟨g, 6, none⟩ = some (.bool F.owe) := kT.at_ rfl
              have f6 := kT.frozen 6
              have HU := end_set6 HT true
              have FU := FT.setCell (p := ⟨g, 6, none⟩) (.inl (by simp)) (.bool true)
              have kpU := kpT.far (p := ⟨g, 6, none⟩) (show gp ≠ g by omega) (.bool true)
              have rU := Lib.hid ((reads_fr rT.out (Nat.le_refl _) ((Fr.refl [g] wT).setCell (p := ⟨g, 6, none⟩) (.inl (by simp)) (.bool true)) (fun ad e hm => by have := hXw.out ad e; simp at hm; omega)).more (B' := (wT.setCell ⟨g, 6, none⟩ (.bool true)).heap.size) (by simp [World.setCell]))
              clear HT FT kpT rT kT
              go_wp2_with fail
              generalize hwU : wT.setCell ⟨g, 6, none⟩ (.bool true) = wU at *
              clear hwU t6 f6 pT0
              obtain ⟨BU, mU, dU, vU, DU, kU', hmU, hoU, hqU, hrU, hMU, hHU⟩ := id HU
              obtain ⟨X2, y2, z2, hlk, -⟩ := look_end hMU hHU hsI
              have d5 : wU.cell? ⟨g, 5, none⟩ = some (.map (some h)) := kU'.at_ rfl
              have d4 : wU.cell? ⟨g, 4, none⟩ = some (.int .i64 (F.got : Int)) := kU'.at_ rfl
              have d0 : wU.cell? ⟨gp, 0, none⟩ = some (.int .i64 s) := kpU.at_ rfl
              dsimp only at hlk
              clear hmU hoU hqU hrU hMU hHU
              cases hheld : F.held s with
              | none =>
                rw [hheld] at hlk
                have hlk0 := hlk 0
                have hlk1 := hlk 1
                change Sem.run Try.prog (Instr.lookup 63 (.map (some h)) (.int .i64 s) true) wU = .ok (.tuple #[.slice X2 y2 z2, .bool false]) wU at hlk0
                change Sem.run Try.prog (Instr.lookup 63 (.map (some h)) (.int .i64 s) true) wU.drew = .ok (.tuple #[.slice X2 y2 z2, .bool false]) wU.drew at hlk1
                go_region_held3 (fun W => W.cell? ⟨g, 5, none⟩ = some (.map (some h)) ∧ W.cell? ⟨gp, 0, none⟩ = some (.int .i64 s) ∧ Sem.run Try.prog (Instr.lookup 63 (.map (some h)) (.int .i64 s) true) W = .ok (.tuple #[.slice X2 y2 z2, .bool false]) W)
                  (first | exact ⟨d5, d0, hlk0⟩ | exact ⟨d5, d0, hlk1⟩)
                  (first | fail)
                clear hlk hlk0 hlk1
                go_wp2_with fail
                by_cases hnew : (F.got : Int) < s
                · go_quiet (fail)
                  have FV : Fr (g :: h :: q.toList) w (wU.drew.drewN nq) := FU.drew.drewN nq
                  have HV : EndAt (wU.drew.drewN nq) g q h N { F with owe := true } := HU.bel (below_drewN' (Below.refl _ _).drew nq)
                  have kpV := kpU.drew.drewN nq
                  have rV : Hid (Reads (wU.drew.drewN nq).drew (wU.drew.drewN nq).drew.heap.size 1 X y (bytesV b)) := rU
                  clear FU HU kpU rU kU' d5 d4 d0
                  generalize wU.drew.drewN nq = wV at *
                  obtain ⟨BV, mV, dV, vV, DV, kV', hmV, hoV, hqV, hrV, hMV, hHV⟩ := id HV
                  have d5 : wV.drew.cell? ⟨g, 5, none⟩ = some (.map (some h)) := kV'.at_ rfl
                  have d0 : wV.drew.cell? ⟨gp, 0, none⟩ = some (.int .i64 s) := kpV.at_ rfl
                  have d2 : wV.drew.cell? ⟨gp, 2, none⟩ = some (.slice X y z) := kpV.at_ rfl
                  have HMV := Lib.hid hmV
                  clear hmV
                  have hmV := HMV
                  go_wp2_with fail
                  refine wp_region_but (fun W => W.cell? ⟨g, 5, none⟩ = some (.map (some h)) ∧ W.cell? ⟨gp, 0, none⟩ = some (.int .i64 s) ∧ W.cell? ⟨gp, 2, none⟩ = some (.slice X y z)) [9] (by kernel_rfl) ⟨d5, d0, d2⟩ fun hS0 => ?_
                  refine wpBut_pure 0 (v := (.pointer (some ⟨g, 0, none⟩))) rfl (by kernel_rfl) (fun _ _ _ h => h) ⟨by rfl, fun W => ?_⟩ (fun _ => hS0) ?_
                  · go_simp
                  simp only [Act.put, List.setIfInBounds_toArray, List.set_cons_zero, List.set_cons_succ]
                  refine wpBut_pure 1 (v := (.pointer (some ⟨g, 0, none⟩))) rfl (by kernel_rfl) (fun _ _ _ h => h) ⟨by rfl, fun W => ?_⟩ (fun _ => hS0) ?_
                  · go_simp
                  simp only [Act.put, List.setIfInBounds_toArray, List.set_cons_zero, List.set_cons_succ]
                  refine wpBut_pure 2 (v := (.pointer (some ⟨g, 5, none⟩))) rfl (by kernel_rfl) (fun _ _ _ h => h) ⟨by rfl, fun W => ?_⟩ (fun _ => hS0) ?_
                  · go_simp
                  simp only [Act.put, List.setIfInBounds_toArray, List.set_cons_zero, List.set_cons_succ]
                  refine wpBut_takeF 3 6 (v := (.map (some h))) rfl (by kernel_rfl) (fun _ _ _ h => h) ⟨by rfl, fun W hW => ?_⟩ hS0 ?_
                  · obtain ⟨s5, s0, s2⟩ := hW
                    go_simp
                  simp only [Act.put, List.setIfInBounds_toArray, List.set_cons_zero, List.set_cons_succ]
                  refine wpBut_pure 4 (v := (.pointer (some ⟨gp, 0, none⟩))) rfl (by kernel_rfl) (fun _ _ _ h => h) ⟨by rfl, fun W => ?_⟩ (fun _ => hS0) ?_
                  · go_simp
                  simp only [Act.put, List.setIfInBounds_toArray, List.set_cons_zero, List.set_cons_succ]
                  refine wpBut_takeF 5 6 (v := (.int .i64 s)) rfl (by kernel_rfl) (fun _ _ _ h => h) ⟨by rfl, fun W hW => ?_⟩ hS0 ?_
                  · obtain ⟨s5, s0, s2⟩ := hW
                    go_simp
                  simp only [Act.put, List.setIfInBounds_toArray, List.set_cons_zero, List.set_cons_succ]
                  refine wpBut_pure 6 (v := (.pointer (some ⟨gp, 2, none⟩))) rfl (by kernel_rfl) (fun _ _ _ h => h) ⟨by rfl, fun W => ?_⟩ (fun _ => hS0) ?_
                  · go_simp
                  simp only [Act.put, List.setIfInBounds_toArray, List.set_cons_zero, List.set_cons_succ]
                  refine wpBut_takeF 7 6 (v := (.slice X y z)) rfl (by kernel_rfl) (fun _ _ _ h => h) ⟨by rfl, fun W hW => ?_⟩ hS0 ?_
                  · obtain ⟨s5, s0, s2⟩ := hW
                    go_simp
                  simp only [Act.put, List.setIfInBounds_toArray, List.set_cons_zero, List.set_cons_succ]
                  refine wpBut_one 8 rfl (by kernel_rfl) fun K hK => ?_
                  go_simp
                  go_at_call 32
                  refine (clone_any X y z b wV.drew rV.out (by have := rV.out.byte_len; omega)).mono ?_
                  rintro E8 w8 ⟨v8, rfl, ho8, hb8⟩
                  have ok8 : Ok wV w8 := Ok.step (Ok.refl wV).drew hb8
                  have sl8 := Sl.of_own ho8
                  have kp8 := kpV.ok ok8
                  have k8 := kV'.ok ok8
                  go_simp
                  refine hK.out _ _ ⟨k8.at_ rfl, kp8.at_ rfl, kp8.at_ rfl⟩ fun hS8 => ?_
                  clear hK K hS8
                  refine wpBut_seq 9 (g := 0) (by decide) (by decide) (by rfl) (by kernel_rfl) ?_
                  simp only [List.drop_succ_cons, List.drop_zero]
                  have m8 := map_fr hMV (Fr.of_below ok8 []) (by simp)
                  have hkey : keyOf Try.prog 3 (.int .i64 s) = some (.int .i64 s) := Maps.keyOf_int_mk Try.underlying3 (i64_wf hsI)
                  have HDEL := Lib.hid (deliver_any g h)
                  go_wp2_with (at_mapUpdate; refine wpList_mapUpdate_own _ rfl _ _ _ 63 rfl 3 33 intKey Try.underlying63 hR h N DV rfl m8 (by unfold maxLen; omega) _ _ (.int .i64 s) rfl rfl hkey (.held v8) [] rfl ?_; intro w9 m9 g9)
                  have F89 : Fr [h] w8 w9 := Fr.of_grown g9 (fun i e => by cases e; exact List.mem_singleton.2 rfl)
                  have u9 : U8 w8 w9 := U8.grown g9 (fun i e => by cases e; exact map_not_u8 m8)
                  have uV9 := (U8.bel ok8).trans u9
                  have H9 : EndAt w9 g q h (N + 1) { F with owe := true, held := fun k => if k = s then some b else F.held k } :=
                    ⟨BV, mV, dV, vV, _, k8.fr F89 (by simp; exact fun e => hap.1 e.symm), hmV.out, own_fr (own_ok hoV ok8) F89 (fun i e hm => by rw [hqV] at e; simp at hm; exact (hap.2 i e).2 hm), hqV, hrV.u8 uV9, m9, (hHV.u8 uV9).put hMV.isMap (i64_wf hsI) (sl8.u8 u9)⟩
                  have F9 := (FV.bel ok8).next F89 (fun i hi => .inl (by simp at hi; simp [hi]))
                  have hin : inPut { F with owe := true } s b = { F with owe := true, held := fun k => if k = s then some b else F.held k } := by unfold inPut; rw [if_pos ⟨hnew, hheld⟩]
                  have HIN := Lib.hid hin
                  have hdl := deliver_any g h _ q _ w9 H9 (by have := HFH.out.1; dsimp only; omega) (fun k l hk => by dsimp only at hk ⊢; have := HFH.out.1; by_cases e : k = s; omega; rw [if_neg e, HFH.out.2] at hk; have := hkeys k l hk; omega)
                  have HDL := Lib.hid hdl
                  clear hdl hin
                  refine HDL.out.mono ?_
                  rintro E9 wD ⟨v9, vs9, rfl, oD, rD, HD9, fD⟩
                  go_wp2_with fail
                  go_ret2
                  rw [HFT.out, HIN.out]
                  exact ⟨_, vs9, rfl, own_le oD (Fr.size F9), rD, HD9, F9.next fD (fun i hi => .inl (by simp at hi ⊢; rcases hi with h1 | h1; exact .inl h1; exact .inr (.inl h1)))⟩
                · have hdn : decide ((F.got : Int) < s) = false := decide_eq_false hnew
                  go_quiet (fail)
                  have FV : Fr (g :: h :: q.toList) w (wU.drew.drewN nq) := FU.drew.drewN nq
                  have HV : EndAt (wU.drew.drewN nq) g q h N { F with owe := true } := HU.bel (below_drewN' (Below.refl _ _).drew nq)
                  clear FU HU kpU rU kU' d5 d4 d0
                  generalize wU.drew.drewN nq = wV at *
                  have hin : inPut { F with owe := true } s b = { F with owe := true } := by unfold inPut; rw [if_neg (fun h => hnew h.1)]
                  have HIN := Lib.hid hin
                  have hdl := deliver_any g h _ q _ wV HV (by have := HFH.out.1; dsimp only; omega) (fun k l hk => by dsimp only at hk ⊢; rw [HFH.out.2] at hk; have := hkeys k l hk; have := HFH.out.1; omega)
                  have HDL := Lib.hid hdl
                  clear hdl hin
                  go_wp2_with fail
                  refine HDL.out.mono ?_
                  rintro E9 wD ⟨v9, vs9, rfl, oD, rD, HD9, fD⟩
                  go_wp2_with fail
                  go_ret2
                  rw [HFT.out, HIN.out]
                  exact ⟨_, vs9, rfl, own_le oD (Fr.size FV), rD, HD9.mono (Nat.le_succ _), FV.next fD (fun i hi => .inl (by simp at hi ⊢; rcases hi with h1 | h1; exact .inl h1; exact .inr (.inl h1)))⟩
              | some lb =>
                rw [hheld] at hlk
                have hlk0 := hlk 0
                have hlk1 := hlk 1
                change Sem.run Try.prog (Instr.lookup 63 (.map (some h)) (.int .i64 s) true) wU = .ok (.tuple #[.slice X2 y2 z2, .bool true]) wU at hlk0
                change Sem.run Try.prog (Instr.lookup 63 (.map (some h)) (.int .i64 s) true) wU.drew = .ok (.tuple #[.slice X2 y2 z2, .bool true]) wU.drew at hlk1
                go_region_held3 (fun W => W.cell? ⟨g, 5, none⟩ = some (.map (some h)) ∧ W.cell? ⟨gp, 0, none⟩ = some (.int .i64 s) ∧ Sem.run Try.prog (Instr.lookup 63 (.map (some h)) (.int .i64 s) true) W = .ok (.tuple #[.slice X2 y2 z2, .bool true]) W)
                  (first | exact ⟨d5, d0, hlk0⟩ | exact ⟨d5, d0, hlk1⟩)
                  (first | fail)
                clear hlk hlk0 hlk1
                go_wp2_with fail
                have FV : Fr (g :: h :: q.toList) w wU.drew := FU.drew
                have HV : EndAt wU.drew g q h N { F with owe := true } := HU.bel (Below.refl _ _).drew
                have d4' : wU.drew.cell? ⟨g, 4, none⟩ = some (.int .i64 (F.got : Int)) := d4
                have d0' : wU.drew.cell? ⟨gp, 0, none⟩ = some (.int .i64 s) := d0
                clear FU HU kpU rU kU' d5 d4 d0
                generalize wU.drew = wX at *
                by_cases hnew : (F.got : Int) < s
                · go_quiet (fail)
                  have FV := FV.drewN nq
                  have HV : EndAt (wX.drewN nq) g q h N { F with owe := true } := HV.bel (below_drewN' (Below.refl _ _) nq)
                  clear d4' d0'
                  generalize wX.drewN nq = wV at *
                  have hin : inPut { F with owe := true } s b = { F with owe := true } := by unfold inPut; rw [if_neg (fun h => by have h2 := h.2; dsimp only at h2; rw [hheld] at h2; cases h2)]
                  have HIN := Lib.hid hin
                  have hdl := deliver_any g h _ q _ wV HV (by have := HFH.out.1; dsimp only; omega) (fun k l hk => by dsimp only at hk ⊢; rw [HFH.out.2] at hk; have := hkeys k l hk; have := HFH.out.1; omega)
                  have HDL := Lib.hid hdl
                  clear hdl hin
                  go_wp2_with fail
                  refine HDL.out.mono ?_
                  rintro E9 wD ⟨v9, vs9, rfl, oD, rD, HD9, fD⟩
                  go_wp2_with fail
                  go_ret2
                  rw [HFT.out, HIN.out]
                  exact ⟨_, vs9, rfl, own_le oD (Fr.size FV), rD, HD9.mono (Nat.le_succ _), FV.next fD (fun i hi => .inl (by simp at hi ⊢; rcases hi with h1 | h1; exact .inl h1; exact .inr (.inl h1)))⟩
                · have hdn : decide ((F.got : Int) < s) = false := decide_eq_false hnew
                  go_quiet (fail)
                  have FV := FV.drewN nq
                  have HV : EndAt (wX.drewN nq) g q h N { F with owe := true } := HV.bel (below_drewN' (Below.refl _ _) nq)
                  clear d4' d0'
                  generalize wX.drewN nq = wV at *
                  have hin : inPut { F with owe := true } s b = { F with owe := true } := by unfold inPut; rw [if_neg (fun h => hnew h.1)]
                  have HIN := Lib.hid hin
                  have hdl := deliver_any g h _ q _ wV HV (by have := HFH.out.1; dsimp only; omega) (fun k l hk => by dsimp only at hk ⊢; rw [HFH.out.2] at hk; have := hkeys k l hk; have := HFH.out.1; omega)
                  have HDL := Lib.hid hdl
                  clear hdl hin
                  go_wp2_with fail
                  refine HDL.out.mono ?_
                  rintro E9 wD ⟨v9, vs9, rfl, oD, rD, HD9, fD⟩
                  go_wp2_with fail
                  go_ret2
                  rw [HFT.out, HIN.out]
                  exact ⟨_, vs9, rfl, own_le oD (Fr.size FV), rD, HD9.mono (Nat.le_succ _), FV.next fD (fun i hi => .inl (by simp at hi ⊢; rcases hi with h1 | h1; exact .inl h1; exact .inr (.inl h1)))⟩
          · obtain ⟨κ, hκ⟩ : ∃ κ : Int, κ = (α : Int) - (E.ack : Int) := ⟨_, rfl⟩
            have w1c : IntKind.i64.wrap ((α : Int) - (E.ack : Int)) = κ := by rw [IntKind.wrap_i64]; omega
            have hκ0 : ¬ 0 < κ := by omega
            obtain ⟨F, hFd⟩ : ∃ F, F = inAck E (α : Int) := ⟨_, rfl⟩
            have hFe : F = E := by
              rw [hFd]
              unfold inAck
              rw [if_neg (by omega)]
            have HFT : Hid (R = (if s = 0 then ([], 0, F) else ((inRun (inPut { F with owe := true } s b)).1, 0, (inRun (inPut { F with owe := true } s b)).2))) := Lib.hid (by rw [hFd]; exact HF.out)
            have hFg : F.got = E.got := by rw [hFe]
            have hFh : F.held = E.held := by rw [hFe]
            have HFH := Lib.hid (And.intro hFg hFh)
            clear HF hκ hFd hFg hFh
            go_quiet (fail)
            have FT : Fr (g :: h :: q.toList) w (w4.drewN nq) := F4.drewN nq
            have HT : EndAt (w4.drewN nq) g q h N F := by rw [hFe]; exact H4.bel (below_drewN' (Below.refl _ _) nq)
            have kpT := kp4.drewN nq
            have rT : Hid (Reads (w4.drewN nq) (w4.drewN nq).heap.size 1 X y (bytesV b)) := r4
            clear p1 q3 F4 H4 kp4 k4 r4 hFe
            generalize w4.drewN nq = wT at *
            -- the tail
            have pT0 : wT.cell? ⟨gp, 0, none⟩ = some (.int .i64 s) := kpT.at_ rfl
            by_cases h0 : s = 0
            · subst h0
              have HFT := Lib.hid (HFT.out.trans (if_pos rfl))
              go_wp2_with fail
              go_ret2
              rw [HFT.out]
              exact inPost_nil rfl HT FT
            · have hs0 : (s == 0) = false := by simpa using h0
              have HFT := Lib.hid (HFT.out.trans (if_neg h0))
              obtain ⟨BT, mT, dT, vT, DT, kT, -⟩ := id HT
              have t6 : wT.cell? ⟨g, 6, none⟩ = some (.bool F.owe) := kT.at_ rfl
              have f6 := kT.frozen 6
              have HU := end_set6 HT true
              have FU := FT.setCell (p := ⟨g, 6, none⟩) (.inl (by simp)) (.bool true)
              have kpU := kpT.far (p := ⟨g, 6, none⟩) (show gp ≠ g by omega) (.bool true)
              have rU := Lib.hid ((reads_fr rT.out (Nat.le_refl _) ((Fr.refl [g] wT).setCell (p := ⟨g, 6, none⟩) (.inl (by simp)) (.bool true)) (fun ad e hm => by have := hXw.out ad e; simp at hm; omega)).more (B' := (wT.setCell ⟨g, 6, none⟩ (.bool true)).heap.size) (by simp [World.setCell]))
              clear HT FT kpT rT kT
              go_wp2_with fail
              generalize hwU : wT.setCell ⟨g, 6, none⟩ (.bool true) = wU at *
              clear hwU t6 f6 pT0
              obtain ⟨BU, mU, dU, vU, DU, kU', hmU, hoU, hqU, hrU, hMU, hHU⟩ := id HU
              obtain ⟨X2, y2, z2, hlk, -⟩ := look_end hMU hHU hsI
              have d5 : wU.cell? ⟨g, 5, none⟩ = some (.map (some h)) := kU'.at_ rfl
              have d4 : wU.cell? ⟨g, 4, none⟩ = some (.int .i64 (F.got : Int)) := kU'.at_ rfl
              have d0 : wU.cell? ⟨gp, 0, none⟩ = some (.int .i64 s) := kpU.at_ rfl
              dsimp only at hlk
              clear hmU hoU hqU hrU hMU hHU
              cases hheld : F.held s with
              | none =>
                rw [hheld] at hlk
                have hlk0 := hlk 0
                have hlk1 := hlk 1
                change Sem.run Try.prog (Instr.lookup 63 (.map (some h)) (.int .i64 s) true) wU = .ok (.tuple #[.slice X2 y2 z2, .bool false]) wU at hlk0
                change Sem.run Try.prog (Instr.lookup 63 (.map (some h)) (.int .i64 s) true) wU.drew = .ok (.tuple #[.slice X2 y2 z2, .bool false]) wU.drew at hlk1
                go_region_held3 (fun W => W.cell? ⟨g, 5, none⟩ = some (.map (some h)) ∧ W.cell? ⟨gp, 0, none⟩ = some (.int .i64 s) ∧ Sem.run Try.prog (Instr.lookup 63 (.map (some h)) (.int .i64 s) true) W = .ok (.tuple #[.slice X2 y2 z2, .bool false]) W)
                  (first | exact ⟨d5, d0, hlk0⟩ | exact ⟨d5, d0, hlk1⟩)
                  (first | fail)
                clear hlk hlk0 hlk1
                go_wp2_with fail
                by_cases hnew : (F.got : Int) < s
                · go_quiet (fail)
                  have FV : Fr (g :: h :: q.toList) w (wU.drew.drewN nq) := FU.drew.drewN nq
                  have HV : EndAt (wU.drew.drewN nq) g q h N { F with owe := true } := HU.bel (below_drewN' (Below.refl _ _).drew nq)
                  have kpV := kpU.drew.drewN nq
                  have rV : Hid (Reads (wU.drew.drewN nq).drew (wU.drew.drewN nq).drew.heap.size 1 X y (bytesV b)) := rU
                  clear FU HU kpU rU kU' d5 d4 d0
                  generalize wU.drew.drewN nq = wV at *
                  obtain ⟨BV, mV, dV, vV, DV, kV', hmV, hoV, hqV, hrV, hMV, hHV⟩ := id HV
                  have d5 : wV.drew.cell? ⟨g, 5, none⟩ = some (.map (some h)) := kV'.at_ rfl
                  have d0 : wV.drew.cell? ⟨gp, 0, none⟩ = some (.int .i64 s) := kpV.at_ rfl
                  have d2 : wV.drew.cell? ⟨gp, 2, none⟩ = some (.slice X y z) := kpV.at_ rfl
                  have HMV := Lib.hid hmV
                  clear hmV
                  have hmV := HMV
                  go_wp2_with fail
                  refine wp_region_but (fun W => W.cell? ⟨g, 5, none⟩ = some (.map (some h)) ∧ W.cell? ⟨gp, 0, none⟩ = some (.int .i64 s) ∧ W.cell? ⟨gp, 2, none⟩ = some (.slice X y z)) [9] (by kernel_rfl) ⟨d5, d0, d2⟩ fun hS0 => ?_
                  refine wpBut_pure 0 (v := (.pointer (some ⟨g, 0, none⟩))) rfl (by kernel_rfl) (fun _ _ _ h => h) ⟨by rfl, fun W => ?_⟩ (fun _ => hS0) ?_
                  · go_simp
                  simp only [Act.put, List.setIfInBounds_toArray, List.set_cons_zero, List.set_cons_succ]
                  refine wpBut_pure 1 (v := (.pointer (some ⟨g, 0, none⟩))) rfl (by kernel_rfl) (fun _ _ _ h => h) ⟨by rfl, fun W => ?_⟩ (fun _ => hS0) ?_
                  · go_simp
                  simp only [Act.put, List.setIfInBounds_toArray, List.set_cons_zero, List.set_cons_succ]
                  refine wpBut_pure 2 (v := (.pointer (some ⟨g, 5, none⟩))) rfl (by kernel_rfl) (fun _ _ _ h => h) ⟨by rfl, fun W => ?_⟩ (fun _ => hS0) ?_
                  · go_simp
                  simp only [Act.put, List.setIfInBounds_toArray, List.set_cons_zero, List.set_cons_succ]
                  refine wpBut_takeF 3 6 (v := (.map (some h))) rfl (by kernel_rfl) (fun _ _ _ h => h) ⟨by rfl, fun W hW => ?_⟩ hS0 ?_
                  · obtain ⟨s5, s0, s2⟩ := hW
                    go_simp
                  simp only [Act.put, List.setIfInBounds_toArray, List.set_cons_zero, List.set_cons_succ]
                  refine wpBut_pure 4 (v := (.pointer (some ⟨gp, 0, none⟩))) rfl (by kernel_rfl) (fun _ _ _ h => h) ⟨by rfl, fun W => ?_⟩ (fun _ => hS0) ?_
                  · go_simp
                  simp only [Act.put, List.setIfInBounds_toArray, List.set_cons_zero, List.set_cons_succ]
                  refine wpBut_takeF 5 6 (v := (.int .i64 s)) rfl (by kernel_rfl) (fun _ _ _ h => h) ⟨by rfl, fun W hW => ?_⟩ hS0 ?_
                  · obtain ⟨s5, s0, s2⟩ := hW
                    go_simp
                  simp only [Act.put, List.setIfInBounds_toArray, List.set_cons_zero, List.set_cons_succ]
                  refine wpBut_pure 6 (v := (.pointer (some ⟨gp, 2, none⟩))) rfl (by kernel_rfl) (fun _ _ _ h => h) ⟨by rfl, fun W => ?_⟩ (fun _ => hS0) ?_
                  · go_simp
                  simp only [Act.put, List.setIfInBounds_toArray, List.set_cons_zero, List.set_cons_succ]
                  refine wpBut_takeF 7 6 (v := (.slice X y z)) rfl (by kernel_rfl) (fun _ _ _ h => h) ⟨by rfl, fun W hW => ?_⟩ hS0 ?_
                  · obtain ⟨s5, s0, s2⟩ := hW
                    go_simp
                  simp only [Act.put, List.setIfInBounds_toArray, List.set_cons_zero, List.set_cons_succ]
                  refine wpBut_one 8 rfl (by kernel_rfl) fun K hK => ?_
                  go_simp
                  go_at_call 32
                  refine (clone_any X y z b wV.drew rV.out (by have := rV.out.byte_len; omega)).mono ?_
                  rintro E8 w8 ⟨v8, rfl, ho8, hb8⟩
                  have ok8 : Ok wV w8 := Ok.step (Ok.refl wV).drew hb8
                  have sl8 := Sl.of_own ho8
                  have kp8 := kpV.ok ok8
                  have k8 := kV'.ok ok8
                  go_simp
                  refine hK.out _ _ ⟨k8.at_ rfl, kp8.at_ rfl, kp8.at_ rfl⟩ fun hS8 => ?_
                  clear hK K hS8
                  refine wpBut_seq 9 (g := 0) (by decide) (by decide) (by rfl) (by kernel_rfl) ?_
                  simp only [List.drop_succ_cons, List.drop_zero]
                  have m8 := map_fr hMV (Fr.of_below ok8 []) (by simp)
                  have hkey : keyOf Try.prog 3 (.int .i64 s) = some (.int .i64 s) := Maps.keyOf_int_mk Try.underlying3 (i64_wf hsI)
                  have HDEL := Lib.hid (deliver_any g h)
                  go_wp2_with (at_mapUpdate; refine wpList_mapUpdate_own _ rfl _ _ _ 63 rfl 3 33 intKey Try.underlying63 hR h N DV rfl m8 (by unfold maxLen; omega) _ _ (.int .i64 s) rfl rfl hkey (.held v8) [] rfl ?_; intro w9 m9 g9)
                  have F89 : Fr [h] w8 w9 := Fr.of_grown g9 (fun i e => by cases e; exact List.mem_singleton.2 rfl)
                  have u9 : U8 w8 w9 := U8.grown g9 (fun i e => by cases e; exact map_not_u8 m8)
                  have uV9 := (U8.bel ok8).trans u9
                  have H9 : EndAt w9 g q h (N + 1) { F with owe := true, held := fun k => if k = s then some b else F.held k } :=
                    ⟨BV, mV, dV, vV, _, k8.fr F89 (by simp; exact fun e => hap.1 e.symm), hmV.out, own_fr (own_ok hoV ok8) F89 (fun i e hm => by rw [hqV] at e; simp at hm; exact (hap.2 i e).2 hm), hqV, hrV.u8 uV9, m9, (hHV.u8 uV9).put hMV.isMap (i64_wf hsI) (sl8.u8 u9)⟩
                  have F9 := (FV.bel ok8).next F89 (fun i hi => .inl (by simp at hi; simp [hi]))
                  have hin : inPut { F with owe := true } s b = { F with owe := true, held := fun k => if k = s then some b else F.held k } := by unfold inPut; rw [if_pos ⟨hnew, hheld⟩]
                  have HIN := Lib.hid hin
                  have hdl := deliver_any g h _ q _ w9 H9 (by have := HFH.out.1; dsimp only; omega) (fun k l hk => by dsimp only at hk ⊢; have := HFH.out.1; by_cases e : k = s; omega; rw [if_neg e, HFH.out.2] at hk; have := hkeys k l hk; omega)
                  have HDL := Lib.hid hdl
                  clear hdl hin
                  refine HDL.out.mono ?_
                  rintro E9 wD ⟨v9, vs9, rfl, oD, rD, HD9, fD⟩
                  go_wp2_with fail
                  go_ret2
                  rw [HFT.out, HIN.out]
                  exact ⟨_, vs9, rfl, own_le oD (Fr.size F9), rD, HD9, F9.next fD (fun i hi => .inl (by simp at hi ⊢; rcases hi with h1 | h1; exact .inl h1; exact .inr (.inl h1)))⟩
                · have hdn : decide ((F.got : Int) < s) = false := decide_eq_false hnew
                  go_quiet (fail)
                  have FV : Fr (g :: h :: q.toList) w (wU.drew.drewN nq) := FU.drew.drewN nq
                  have HV : EndAt (wU.drew.drewN nq) g q h N { F with owe := true } := HU.bel (below_drewN' (Below.refl _ _).drew nq)
                  clear FU HU kpU rU kU' d5 d4 d0
                  generalize wU.drew.drewN nq = wV at *
                  have hin : inPut { F with owe := true } s b = { F with owe := true } := by unfold inPut; rw [if_neg (fun h => hnew h.1)]
                  have HIN := Lib.hid hin
                  have hdl := deliver_any g h _ q _ wV HV (by have := HFH.out.1; dsimp only; omega) (fun k l hk => by dsimp only at hk ⊢; rw [HFH.out.2] at hk; have := hkeys k l hk; have := HFH.out.1; omega)
                  have HDL := Lib.hid hdl
                  clear hdl hin
                  go_wp2_with fail
                  refine HDL.out.mono ?_
                  rintro E9 wD ⟨v9, vs9, rfl, oD, rD, HD9, fD⟩
                  go_wp2_with fail
                  go_ret2
                  rw [HFT.out, HIN.out]
                  exact ⟨_, vs9, rfl, own_le oD (Fr.size FV), rD, HD9.mono (Nat.le_succ _), FV.next fD (fun i hi => .inl (by simp at hi ⊢; rcases hi with h1 | h1; exact .inl h1; exact .inr (.inl h1)))⟩
              | some lb =>
                rw [hheld] at hlk
                have hlk0 := hlk 0
                have hlk1 := hlk 1
                change Sem.run Try.prog (Instr.lookup 63 (.map (some h)) (.int .i64 s) true) wU = .ok (.tuple #[.slice X2 y2 z2, .bool true]) wU at hlk0
                change Sem.run Try.prog (Instr.lookup 63 (.map (some h)) (.int .i64 s) true) wU.drew = .ok (.tuple #[.slice X2 y2 z2, .bool true]) wU.drew at hlk1
                go_region_held3 (fun W => W.cell? ⟨g, 5, none⟩ = some (.map (some h)) ∧ W.cell? ⟨gp, 0, none⟩ = some (.int .i64 s) ∧ Sem.run Try.prog (Instr.lookup 63 (.map (some h)) (.int .i64 s) true) W = .ok (.tuple #[.slice X2 y2 z2, .bool true]) W)
                  (first | exact ⟨d5, d0, hlk0⟩ | exact ⟨d5, d0, hlk1⟩)
                  (first | fail)
                clear hlk hlk0 hlk1
                go_wp2_with fail
                have FV : Fr (g :: h :: q.toList) w wU.drew := FU.drew
                have HV : EndAt wU.drew g q h N { F with owe := true } := HU.bel (Below.refl _ _).drew
                have d4' : wU.drew.cell? ⟨g, 4, none⟩ = some (.int .i64 (F.got : Int)) := d4
                have d0' : wU.drew.cell? ⟨gp, 0, none⟩ = some (.int .i64 s) := d0
                clear FU HU kpU rU kU' d5 d4 d0
                generalize wU.drew = wX at *
                by_cases hnew : (F.got : Int) < s
                · go_quiet (fail)
                  have FV := FV.drewN nq
                  have HV : EndAt (wX.drewN nq) g q h N { F with owe := true } := HV.bel (below_drewN' (Below.refl _ _) nq)
                  clear d4' d0'
                  generalize wX.drewN nq = wV at *
                  have hin : inPut { F with owe := true } s b = { F with owe := true } := by unfold inPut; rw [if_neg (fun h => by have h2 := h.2; dsimp only at h2; rw [hheld] at h2; cases h2)]
                  have HIN := Lib.hid hin
                  have hdl := deliver_any g h _ q _ wV HV (by have := HFH.out.1; dsimp only; omega) (fun k l hk => by dsimp only at hk ⊢; rw [HFH.out.2] at hk; have := hkeys k l hk; have := HFH.out.1; omega)
                  have HDL := Lib.hid hdl
                  clear hdl hin
                  go_wp2_with fail
                  refine HDL.out.mono ?_
                  rintro E9 wD ⟨v9, vs9, rfl, oD, rD, HD9, fD⟩
                  go_wp2_with fail
                  go_ret2
                  rw [HFT.out, HIN.out]
                  exact ⟨_, vs9, rfl, own_le oD (Fr.size FV), rD, HD9.mono (Nat.le_succ _), FV.next fD (fun i hi => .inl (by simp at hi ⊢; rcases hi with h1 | h1; exact .inl h1; exact .inr (.inl h1)))⟩
                · have hdn : decide ((F.got : Int) < s) = false := decide_eq_false hnew
                  go_quiet (fail)
                  have FV := FV.drewN nq
                  have HV : EndAt (wX.drewN nq) g q h N { F with owe := true } := HV.bel (below_drewN' (Below.refl _ _) nq)
                  clear d4' d0'
                  generalize wX.drewN nq = wV at *
                  have hin : inPut { F with owe := true } s b = { F with owe := true } := by unfold inPut; rw [if_neg (fun h => hnew h.1)]
                  have HIN := Lib.hid hin
                  have hdl := deliver_any g h _ q _ wV HV (by have := HFH.out.1; dsimp only; omega) (fun k l hk => by dsimp only at hk ⊢; rw [HFH.out.2] at hk; have := hkeys k l hk; have := HFH.out.1; omega)
                  have HDL := Lib.hid hdl
                  clear hdl hin
                  go_wp2_with fail
                  refine HDL.out.mono ?_
                  rintro E9 wD ⟨v9, vs9, rfl, oD, rD, HD9, fD⟩
                  go_wp2_with fail
                  go_ret2
                  rw [HFT.out, HIN.out]
                  exact ⟨_, vs9, rfl, own_le oD (Fr.size FV), rD, HD9.mono (Nat.le_succ _), FV.next fD (fun i hi => .inl (by simp at hi ⊢; rcases hi with h1 | h1; exact .inl h1; exact .inr (.inl h1)))⟩
end Go.Proofs.Ytbekkndkdfmijaa
