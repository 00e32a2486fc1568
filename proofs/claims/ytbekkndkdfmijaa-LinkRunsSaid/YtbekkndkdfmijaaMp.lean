/- The reference's In (20). Conditions: sizes. -/
import Derived.Test.YtbekkndkdfmijaaMo
import Derived.Test.YtbekkndkdfmijaaMn
import Derived.StillTailTactics
import Derived.BigQuiet
set_option linter.unusedSimpArgs false
set_option linter.unusedVariables false
namespace Go.Proofs.Ytbekkndkdfmijaa
open Go.RowKit Go

/-- what the reference's In leaves -/
def InR (w : World) (B g : Nat) (vS vH : Value) (S : List (List UInt8)) (n : Nat) (R : List (List UInt8) × Nat × EndV) (e : Ending) (W' : World) : Prop :=
  ∃ v vs vH' ss' bs', e = .returned (.tuple #[v, .int .i64 (R.2.1 : Int)]) ∧ W'.ownsRow w.heap.size 33 1 v vs.length vs ∧ Rws W' vs R.1 ∧ RefAt W' B g vS vH' S ss' bs' R.2.2 ∧ ss'.length ≤ n + 1 ∧ (vH'.ownBlock = vH.ownBlock ∨ vH'.ownBlock = none ∨ ∃ i, vH'.ownBlock = some i ∧ w.heap.size ≤ i) ∧ Fr (g :: (vS.ownBlock.toList ++ vH.ownBlock.toList)) w W'
theorem inR_nil {w W' : World} {B g n e : Nat} {vS vH : Value} {S : List (List UInt8)} {ss : List Int} {bs : List (List UInt8)} {E : EndV} {en : Ending} (he : en = .returned (.tuple #[.slice none 0 0, .int .i64 (e : Int)])) (H : RefAt W' B g vS vH S ss bs E) (hn : ss.length ≤ n) (hf : Fr [g] w W') : InR w B g vS vH S n ([], e, E) en W' :=
  ⟨_, [], vH, ss, bs, he, World.ownsRow_nil _ _ _ _, Rws.nil_ _, H, by omega, .inl rfl, hf.mono fun i hi => by simp at hi; simp [hi]⟩
theorem inRun_nil {E : EndV} (h : E.held ((E.got : Int) + 1) = none) : inRun E = ([], E) := by
  unfold inRun
  rw [runD_none h (by omega)]
  simp only [List.length_nil, Nat.add_zero, cutH_zero]
theorem RefAt.lookL {w : World} {B g : Nat} {vS vH : Value} {S : List (List UInt8)} {ss : List Int} {bs : List (List UInt8)} {E : EndV} (H : RefAt w B g vS vH S ss bs E) (k : Int) : E.held k = Go.Proofs.Ytbekkndkdfmijaa.lookL ss bs k := H.look k
theorem RefAt.blen {w : World} {B g : Nat} {vS vH : Value} {S : List (List UInt8)} {ss : List Int} {bs : List (List UInt8)} {E : EndV} (H : RefAt w B g vS vH S ss bs E) : bs.length = ss.length := by
  obtain ⟨us, -, h2, h3⟩ := H.held
  have := h2.1
  omega
theorem ackEq {S : List (List UInt8)} {E : EndV} {key i : Nat} (I : EndR key E S i) {α T : Nat} (hT : T = max E.ack α) (ha : α ≤ S.length) : inAck E (α : Int) = { E with ack := T, wait := S.drop T } ∧ T ≤ S.length := by
  have h1 := I.ack
  have h2 := I.wait
  unfold inAck
  by_cases h : E.ack < α
  · rw [if_pos (by omega)]
    have e : T = α := by omega
    subst e
    refine ⟨?_, ha⟩
    rw [h2, List.drop_drop]
    congr 2
    omega
  · rw [if_neg (by omega)]
    have e : T = E.ack := by omega
    subst e
    refine ⟨?_, h1⟩
    rw [← h2]
theorem info78 : (Try.prog.info? 78).map (fun i => (i.zero, i.size, i.bytes)) = some (some (.agg #[.int .i64 0, .slice none 0 0]), 2, 32) := by kernel_rfl
theorem cell_two (W : World) (a b : Value) (t : TypeId) : ∀ j u, [a, b][j]? = some u → (W.alloc (.cells #[a, b] t)).cell? ((⟨W.heap.size, 0, none⟩ : Addr).add j) = some u := by
  intro j u hu
  have h := (Blk.new W t #[a, b]).at_ (i := j) (v := u) (by simpa using hu)
  rw [addr_add0]
  exact h
theorem Rws.erase {w : World} {vs : List Value} {ls : List (List UInt8)} (h : Rws w vs ls) (k : Nat) : Rws w (vs.eraseIdx k) (ls.eraseIdx k) := by
  have hl := h.1
  refine ⟨?_, fun i v l h1 h2 => ?_⟩
  · rw [List.length_eraseIdx, List.length_eraseIdx, hl]
  · rw [List.getElem?_eraseIdx] at h1 h2
    split at h1
    · rename_i hk
      rw [if_pos hk] at h2
      exact h.2 _ v l h1 h2
    · rename_i hk
      rw [if_neg hk] at h2
      exact h.2 _ v l h1 h2
theorem own_apart {w : World} {b1 s1 n1 b2 s2 n2 : Nat} {t1 t2 : TypeId} {v1 v2 : Value} {x1 x2 : List Value} (h1 : w.ownsRow b1 t1 s1 v1 n1 x1) (h2 : w.ownsRow b2 t2 s2 v2 n2 x2) (ht : t1 ≠ t2) : ∀ i, v1.ownBlock = some i → v2.ownBlock ≠ some i := by
  intro i e
  rcases h1.2 with ⟨hv, -⟩ | ⟨g', cap, cur, hv, -, hh, -⟩
  · rw [hv] at e; cases e
  · rw [hv] at e
    injection e with e
    subst e
    exact (own_ne_blk h2 hh ht.symm).symm
theorem heldCells_erase (ss : List Int) (us : List Value) (j : Nat) (h : us.length = ss.length) : heldCells (ss.eraseIdx j) (us.eraseIdx j) = (heldCells ss us).take (2 * j) ++ (heldCells ss us).drop (2 * (j + 1)) := by
  rw [List.eraseIdx_eq_take_drop_succ, List.eraseIdx_eq_take_drop_succ, heldCells_app _ _ _ _ (by simp [h]), heldCells_take ss us j h, heldCells_drop ss us (j + 1) h]
theorem heldCells_one {w : World} : ∀ (ss : List Int) (us : List Value) (bs : List (List UInt8)), Rws w us bs → ∀ u ∈ heldCells ss us, u.oneCell' = true := by
  intro ss us bs hr
  have h1 := hr.one
  clear hr
  induction ss generalizing us with
  | nil => intro u hu; cases us <;> simp [heldCells] at hu
  | cons s ss ih =>
    cases us with
    | nil => intro u hu; simp [heldCells] at hu
    | cons x us =>
      intro u hu
      unfold heldCells at hu
      rcases List.mem_cons.1 hu with rfl | hu
      · rfl
      · rcases List.mem_cons.1 hu with rfl | hu
        · exact h1 _ (by simp)
        · exact ih us (fun y hy => h1 y (by simp [hy])) u hu
theorem RefAt.apart {w : World} {B g : Nat} {vS vH : Value} {S : List (List UInt8)} {ss : List Int} {bs : List (List UInt8)} {E : EndV} (H : RefAt w B g vS vH S ss bs E) : ∀ i, vS.ownBlock = some i → vH.ownBlock ≠ some i := by
  intro i e
  obtain ⟨vs, ho, -⟩ := H.sent
  obtain ⟨us, ho2, -⟩ := H.held
  rcases ho.2 with ⟨hv, -⟩ | ⟨g', cap, cur, hv, -, hh, -⟩
  · rw [hv] at e; cases e
  · rw [hv] at e
    injection e with e
    subst e
    exact (own_ne_blk ho2 hh (by decide)).symm
theorem wp_append_own_at {o : Oper} {a : Act} {w : World} {K : Act → World → Prop} {Q : Exit → Act → World → Prop} (s x : Operand) (t : TypeId)
    (ho : o.op = .call { callee := .builtin .append, args := #[s, x], argTypes := #[t, t] })
    (base : Nat) (e : TypeId) (i : TypeInfo) (z : Value) (size bytes : Nat) (ht : Try.prog.underlying t = some (.slice e)) (hi : Try.prog.info? e = some i) (hz : i.zero = some z)
    (hsize : i.size = size) (hby : i.bytes = bytes) (hzs : z.cells.size = size) (hsz : 0 < size)
    (v : Value) (n : Nat) (xs : List Value) (hs : a.eval s = v) (hown : w.ownsRow base e size v n xs)
    (ad : Addr) (m c : Nat) (news : List Value) (hx : a.eval x = .slice (some ad) m c) (hl : news.length = m * size) (hnews : ∀ j u, news[j]? = some u → w.cell? (ad.add j) = some u) (h1 : ∀ u ∈ news, u.oneCell' = true)
    (h63 : n + m ≤ maxLen) (hbytes : (n + m) * bytes ≤ 140737488355328) (hbase : base ≤ w.heap.size)
    (h : ∀ v' w', w'.ownsRow base e size v' (n + m) (xs ++ news) → w.grownBy w' v.ownBlock → (v'.ownBlock = v.ownBlock ∨ v'.ownBlock = some w.heap.size) → K (a.put o.dst v') w') : o.wp Try.prog a w K Q := by
  obtain ⟨v', w', hr, h2, h3, h4, h5⟩ := run_append_own_at (P := Try.prog) w base t o.type e i z size bytes ht hi hz hsize hby hzs hsz v n xs hown ad m c news hl hnews h1 h63 hbytes hbase
  unfold Oper.wp execOp
  simp only [ho, resolve, invoke, builtin, Sem.run_bind, Sem.run_pure, Result.andThen_ok, List.map_toArray, List.map_cons, List.map_nil, hs, hx, hr]
  exact h v' w' h2 h3 h5
/-- other messages are held -/
theorem RefAt.newHeld {w w1 : World} {B g : Nat} {vS vH v' : Value} {S : List (List UInt8)} {ss ss' : List Int} {bs bs' : List (List UInt8)} {E : EndV} {us' : List Value} {held' : Int → Option (List UInt8)} {T : List Nat} (H : RefAt w B g vS vH S ss bs E) (f : Fr T w w1) (hg : g ∉ T) (hs : ∀ i, vS.ownBlock = some i → i ∉ T) (u : U8 w w1)
    (ho : w1.ownsRow B 78 2 v' ss'.length (heldCells ss' us')) (hr : Rws w1 us' bs') (hl : us'.length = ss'.length) (hnd : ss'.Nodup) (hlook : ∀ k, held' k = Go.Proofs.Ytbekkndkdfmijaa.lookL ss' bs' k) :
    RefAt (w1.setCell ⟨g, 5, none⟩ v') B g vS v' S ss' bs' { E with held := held' } := by
  obtain ⟨vs, h1, h2⟩ := H.sent
  obtain ⟨us, h3, h4, h5⟩ := H.held
  have k1 : Blk w1 g 31 (refV E vS vH) := H.blk.fr f hg
  have s1 := own_fr h1 f hs
  have n1 := own_ne_blk s1 k1 (by decide)
  have n2 := own_ne_blk ho k1 (by decide)
  have f1 := (Fr.refl [g] w1).setCell (p := ⟨g, 5, none⟩) (.inl (by simp)) v'
  have u1 := U8.set k1 (by decide) 5 v'
  exact ⟨k1.set_ 5 v', ⟨vs, own_fr s1 f1 (fun i e hm => by simp at hm; exact n1 (by rw [e, hm])), h2.u8 (u.trans u1)⟩, ⟨us', own_fr ho f1 (fun i e hm => by simp at hm; exact n2 (by rw [e, hm])), hr.u8 u1, hl⟩, H.wait, H.ack, hnd, hlook⟩
theorem RefAt.setGot {w : World} {B g : Nat} {vS vH : Value} {S : List (List UInt8)} {ss : List Int} {bs : List (List UInt8)} {E : EndV} (H : RefAt w B g vS vH S ss bs E) (n : Nat) : RefAt (w.setCell ⟨g, 4, none⟩ (.int .i64 (n : Int))) B g vS vH S ss bs { E with got := n } := by
  obtain ⟨vs, h1, h2⟩ := H.sent
  obtain ⟨us, h3, h4, h5⟩ := H.held
  have u := U8.set H.blk (by decide) 4 (.int .i64 (n : Int))
  have f := (Fr.refl [g] w).setCell (p := ⟨g, 4, none⟩) (.inl (by simp)) (.int .i64 (n : Int))
  have n1 := own_ne_blk h1 H.blk (by decide)
  have n2 := own_ne_blk h3 H.blk (by decide)
  exact ⟨H.blk.set_ 4 (.int .i64 (n : Int)), ⟨vs, own_fr h1 f (fun i e hm => by simp at hm; exact n1 (by rw [e, hm])), h2.u8 u⟩, ⟨us, own_fr h3 f (fun i e hm => by simp at hm; exact n2 (by rw [e, hm])), h4.u8 u, h5⟩, H.wait, H.ack, H.nodup, H.look⟩
theorem inPut_no {E : EndV} {s : Int} {b : List UInt8} (h : s ≤ (E.got : Int) ∨ E.held s ≠ none) : inPut E s b = E := by
  unfold inPut
  rw [if_neg]
  rintro ⟨h1, h2⟩
  rcases h with h | h
  · omega
  · exact h h2
theorem inPut_yes {E : EndV} {s : Int} {b : List UInt8} (h : (E.got : Int) < s) (h2 : E.held s = none) : inPut E s b = { E with held := fun k => if k = s then some b else E.held k } := by
  unfold inPut
  rw [if_pos ⟨h, h2⟩]
set_option maxRecDepth 100000 in
set_option maxHeartbeats 16000000 in
theorem rIn_any {w : World} {B g key i : Nat} {vS vH : Value} {S : List (List UInt8)} {ss : List Int} {bs : List (List UInt8)} {E : EndV} {A : Option Addr} {n c : Nat} {l : List UInt8} (H : RefAt w B g vS vH S ss bs E) (I : EndR key E S i) (hi : i ≤ 1000) (hkey0 : key < 18446744073709551616) (hss : ss.length ≤ i)
    (hl : Reads w w.heap.size 1 A n (bytesV l)) (hn : n ≤ 100000) (hnc : n ≤ c) (hB : B ≤ w.heap.size) :
    Calls Try.prog 20 #[.pointer (some ⟨g, 0, none⟩), .slice A n c] w (InR w B g vS vH S ss.length (inF E l)) := by
  have el := hl.byte_len
  have hgl := H.blk.lt
  have hgot := I.got
  have hforg := I.forg
  have c1 : w.cell? ⟨g, 1, none⟩ = some (.int .u64 (E.key : Int)) := H.blk.at_ rfl
  have hop := rOpen_any E.key A n c l w (by rw [I.key]; exact hkey0) hl hn hnc
  have HOP := Lib.hid hop
  have hdef : inF E l = (match openL E.key l with
    | .error e => ([], e, if e = 9 then { E with forg := E.forg + 1 } else E)
    | .ok core => match readP core with
      | none => ([], 2, E)
      | some (s, a, b) => ((inP E s a b).1, 0, (inP E s a b).2)) := rfl
  obtain ⟨R, hR⟩ : ∃ R, R = inF E l := ⟨_, rfl⟩
  rw [← hR] at hdef ⊢
  have HDEF := Lib.hid hdef
  have HI := Lib.hid I
  have H0 := Lib.hid H
  clear hR hdef hop I
  go_enter Try.func20, Try.ntmps20
  go_wp2_with fail
  refine HOP.out.mono ?_
  rintro E0 w1 ⟨rfl, hb⟩
  have H1 := H.ok hb
  have hdef := HDEF.out
  clear HDEF HOP H
  cases hO : openL E.key l with
  | error e =>
    rw [hO] at hdef
    dsimp only at hdef
    simp only [retR]
    have c7 : w1.cell? ⟨g, 7, none⟩ = some (.int .i64 (E.forg : Int)) := H1.blk.at_ rfl
    have f7 := H1.blk.frozen 7
    rcases open_err hO with rfl | rfl
    · rw [if_neg (by decide)] at hdef
      have HD := Lib.hid hdef
      clear hdef
      go_wp2_with fail
      go_ret2
      rw [HD.out]
      exact inR_nil rfl H1 (Nat.le_refl _) (Fr.of_below hb _)
    · rw [if_pos rfl] at hdef
      have HD := Lib.hid hdef
      clear hdef
      have H7 := H1.set7 (E.forg + 1)
      have F7 := (Fr.of_below hb [g]).setCell (p := ⟨g, 7, none⟩) (.inl (by simp)) (.int .i64 ((E.forg + 1 : Nat) : Int))
      have HH := Lib.hid (And.intro H7 F7)
      clear H7 F7
      have e1 : ((E.forg + 1 : Nat) : Int) = (E.forg : Int) + 1 := by omega
      rw [e1] at HH
      have ew : IntKind.i64.wrap ((E.forg : Int) + 1) = (E.forg : Int) + 1 := by rw [IntKind.wrap_i64]; omega
      go_wp2_with fail
      go_ret2
      rw [HD.out]
      exact inR_nil rfl HH.out.1 (Nat.le_refl _) HH.out.2
  | ok core =>
    rw [hO] at hdef
    dsimp only at hdef
    simp only [retR]
    have HDEF := Lib.hid hdef
    clear hdef
    have hcl := open_len hO
    have e1 := openL_take hO
    have e4 : core.length = l.length - 8 := by rw [e1, List.length_take]; omega
    have h3 := (hl.below hb).more hb.size
    have h3 := h3.take (k := core.length) (by omega)
    have e5 : (bytesV l).take core.length = bytesV core := by rw [e4, e1]; simp [bytesV, List.map_take]
    rw [Nat.mul_one, e5] at h3
    have hrd := rRead_any A core.length c core w1 h3 (by omega) (by omega)
    have HRD := Lib.hid hrd
    clear hrd e1 e4 e5 h3 hO hl c1
    go_wp2_with fail
    refine HRD.out.mono ?_
    rintro E1 w2 ⟨⟨s, a, X, y, z, b, rfl, hp, hper, hyz, hsI, haI, hbl⟩, hb2⟩
    have hbB := below_next hb hb2
    clear HRD
    have kp : Blk (w2.alloc (.cells #[.int .i64 s, .int .i64 a, .slice X y z] 43)) w2.heap.size 43 #[.int .i64 s, .int .i64 a, .slice X y z] := Blk.new w2 43 _
    have hbC := hbB.alloc hbB.size (.cells #[.int .i64 s, .int .i64 a, .slice X y z] 43)
    cases hP : readP core with
    | none =>
      have hdef := HDEF.out
      rw [hP] at hdef
      dsimp only at hdef
      have HD := Lib.hid hdef
      clear hdef HDEF hp
      simp only [Option.isSome]
      go_wp2_with fail
      go_ret2
      rw [HD.out]
      exact inR_nil rfl (H0.out.ok hbC) (Nat.le_refl _) (Fr.of_below hbC _)
    | some p =>
      obtain rfl := hp p hP
      have hdef := HDEF.out
      rw [hP] at hdef
      dsimp only at hdef
      have HD := Lib.hid hdef
      clear hdef HDEF hp
      simp only [Option.isSome]
      have hpr : Hid (Byt (w2.alloc (.cells #[.int .i64 s, .int .i64 a, .slice X y z] 43)) X y b) := Lib.hid (hper.out.bel (Ok.alloc (Ok.refl w2) _))
      go_wp2_with fail
      have hgp : w.heap.size ≤ w2.heap.size := hbB.size
      generalize w2.alloc (.cells #[.int .i64 s, .int .i64 a, .slice X y z] 43) = w3 at *
      generalize w2.heap.size = gp at *
      clear hb hb2 hbB H1
      have H3 := H0.out.ok hbC
      obtain ⟨vs0, ho0, -⟩ := H3.sent
      obtain ⟨AS, dS, rfl, -, -, -⟩ := own_slice ho0
      have hpk := read_ok hP
      obtain ⟨α, rfl⟩ := Int.eq_ofNat_of_zero_le hpk.2
      have p0 : w3.cell? ⟨gp, 0, none⟩ = some (.int .i64 s) := kp.at_ rfl
      have p1 : w3.cell? ⟨gp, 1, none⟩ = some (.int .i64 (α : Int)) := kp.at_ rfl
      have q2 : w3.cell? ⟨g, 2, none⟩ = some (.slice AS S.length dS) := H3.blk.at_ rfl
      have q4 : w3.cell? ⟨g, 4, none⟩ = some (.int .i64 (E.got : Int)) := H3.blk.at_ rfl
      have hwl := HI.out.waitLen
      have hsl := HI.out.slen
      have w1b : IntKind.i64.wrap ((E.got : Int) + 16) = (E.got : Int) + 16 := by rw [IntKind.wrap_i64]; omega
      clear ho0
      by_cases ha : (S.length : Int) < (α : Int)
      · have hF : R = ([], 0, E) := by rw [HD.out]; unfold inP; rw [if_pos (.inl (by omega))]
        have HF := Lib.hid hF
        have hd0 : decide (S.length < α) = true := decide_eq_true (by omega)
        clear hF HD hwl
        go_quiet (fail)
        go_wp2_with fail
        go_ret2
        rw [HF.out]
        exact inR_nil rfl (H3.ok (below_drewN' (Below.refl _ _) _)) (Nat.le_refl _) ((Fr.of_below hbC _).drewN _)
      · have hd1 : decide (S.length < α) = false := decide_eq_false (by omega)
        have hd1' : decide ((S.length : Int) < (α : Int)) = false := decide_eq_false ha
        by_cases hs : (E.got : Int) + 16 < s
        · have hF : R = ([], 0, E) := by rw [HD.out]; unfold inP; rw [if_pos (.inr hs)]
          have HF := Lib.hid hF
          clear hF HD hwl
          go_quiet (fail)
          go_wp2_with fail
          go_ret2
          rw [HF.out]
          exact inR_nil rfl (H3.ok (below_drewN' (Below.refl _ _) _)) (Nat.le_refl _) ((Fr.of_below hbC _).drewN _)
        · have hF : R = (if s = 0 then ([], 0, inAck E α) else ((inRun (inPut { inAck E α with owe := true } s b)).1, 0, (inRun (inPut { inAck E α with owe := true } s b)).2)) := by
            rw [HD.out]; unfold inP; rw [if_neg (by omega)]
            by_cases h0 : s = 0
            · rw [if_pos h0, if_pos h0]
            · rw [if_neg h0, if_neg h0]
          have HF := Lib.hid hF
          have hα : α ≤ S.length := by omega
          have hS1 : S.length ≤ 1000 := by omega
          clear hF HD hwl
          go_quiet (fail)
          have F4 : Fr [g] w (w3.drewN nq) := (Fr.of_below hbC _).drewN nq
          have H4 : RefAt (w3.drewN nq) B g (.slice AS S.length dS) vH S ss bs E := H3.ok (below_drewN' (Below.refl _ _) nq)
          have kp4 : Blk (w3.drewN nq) gp 43 _ := kp.ok (below_drewN' (Below.refl _ _) nq)
          have HSL4 : Hid (Sl (w3.drewN nq) (.slice X y z) b) := Lib.hid ⟨X, y, z, rfl, hyz, hpr.out.bel ((Ok.refl _).drewN nq)⟩
          clear p0 p1 q2 q4 hbC H3 kp hpr
          generalize w3.drewN nq = w4 at *
          have p1 : w4.cell? ⟨gp, 1, none⟩ = some (.int .i64 (α : Int)) := kp4.at_ rfl
          have q3 : w4.cell? ⟨g, 3, none⟩ = some (.int .i64 (E.ack : Int)) := H4.blk.at_ rfl
          have f3 := H4.blk.frozen 3
          obtain ⟨T, hT⟩ : ∃ T, T = max E.ack α := ⟨_, rfl⟩
          have hmx := fun ts t W => run_max_int2 (P := Try.prog) (w := W) ts t .i64 .i64 (E.ack : Int) (α : Int)
          rw [show (if (α : Int) > (E.ack : Int) then (α : Int) else (E.ack : Int)) = (T : Int) by rw [hT]; split <;> omega] at hmx
          obtain ⟨eA, hTS⟩ := ackEq HI.out hT hα
          rw [eA] at HF
          clear hT eA
          obtain ⟨F, hFd⟩ : ∃ F : EndV, F = { E with ack := T, wait := S.drop T } := ⟨_, rfl⟩
          rw [← hFd] at HF
          have HFD := Lib.hid hFd
          have hFg : F.got = E.got := by rw [hFd]
          have hFh : F.held = E.held := by rw [hFd]
          have HFG := Lib.hid (And.intro hFg hFh)
          have p1d : w4.drew.cell? ⟨gp, 1, none⟩ = some (.int .i64 (α : Int)) := p1
          have q3d : w4.drew.cell? ⟨g, 3, none⟩ = some (.int .i64 (E.ack : Int)) := q3
          have f3d : w4.drew.frozen? ⟨g, 3, none⟩ = false := f3
          clear hFd hFg hFh
          go_upto_region 11 with fail
          go_still_tail 10, (by kernel_rfl)
          change wpList _ _ _ _ _ w4.drew
          have HT : RefAt (w4.setCell ⟨g, 3, none⟩ (.int .i64 (T : Int))).drew B g (.slice AS S.length dS) vH S ss bs F := by
            rw [HFD.out]
            exact (H4.setAck T hTS).ok (Below.drew (Below.refl _ _))
          have FT : Fr [g] w (w4.setCell ⟨g, 3, none⟩ (.int .i64 (T : Int))).drew := (F4.setCell (p := ⟨g, 3, none⟩) (.inl (by simp)) _).drew
          have kpT : Blk (w4.setCell ⟨g, 3, none⟩ (.int .i64 (T : Int))).drew gp 43 #[.int .i64 s, .int .i64 (α : Int), .slice X y z] := (Blk.far kp4 (p := ⟨g, 3, none⟩) (show gp ≠ g by omega) (.int .i64 (T : Int))).drew
          have rT : Hid (Sl (w4.setCell ⟨g, 3, none⟩ (.int .i64 (T : Int))).drew (.slice X y z) b) := Lib.hid ((HSL4.out.u8 (U8.set H4.blk (by decide) 3 (.int .i64 (T : Int)))).u8 (U8.bel (Below.drew (Below.refl _ _))))
          go_upto_region 12 with fail
          generalize (w4.setCell ⟨g, 3, none⟩ (.int .i64 (T : Int))).drew = w5 at *
          clear H4 F4 kp4 p1 q3 f3 p1d q3d f3d HSL4
          have p0 : w5.cell? ⟨gp, 0, none⟩ = some (.int .i64 s) := kpT.at_ rfl
          by_cases h0 : s = 0
          · subst h0
            have HF := Lib.hid (HF.out.trans (if_pos rfl))
            go_wp2_with fail
            go_ret2
            rw [HF.out]
            exact inR_nil rfl HT (Nat.le_refl _) FT
          · have hs0 : (s == 0) = false := by simpa using h0
            have HF := Lib.hid (HF.out.trans (if_neg h0))
            have f6 := HT.blk.frozen 6
            have t6 : w5.cell? ⟨g, 6, none⟩ = some (.bool F.owe) := HT.blk.at_ rfl
            go_upto_region 15 with fail
            obtain ⟨F1, hF1⟩ : ∃ F1 : EndV, F1 = { F with owe := true } := ⟨_, rfl⟩
            have HF : Hid (R = ((inRun (inPut F1 s b)).1, 0, (inRun (inPut F1 s b)).2)) := Lib.hid (by rw [hF1]; exact HF.out)
            have HFG : Hid (F1.got = E.got ∧ F1.held = E.held) := Lib.hid (by rw [hF1]; exact HFG.out)
            have HU := HT.set6 true
            rw [← hF1] at HU
            clear hF1
            have FU := FT.setCell (p := ⟨g, 6, none⟩) (.inl (by simp)) (.bool true)
            have kpU := kpT.far (p := ⟨g, 6, none⟩) (show gp ≠ g by omega) (.bool true)
            have rU : Hid (Sl (w5.setCell ⟨g, 6, none⟩ (.bool true)) (.slice X y z) b) := Lib.hid (rT.out.u8 (U8.set HT.blk (by decide) 6 (.bool true)))
            generalize w5.setCell ⟨g, 6, none⟩ (.bool true) = w6 at *
            clear HT FT kpT rT f6 t6 p0
            have hFG : F1.got = E.got := HFG.out.1
            have hnone : F1.held ((F1.got : Int) + 1) = none := by
              rw [HFG.out.2, hFG]
              cases hh : E.held ((E.got : Int) + 1) with
              | none => rfl
              | some bb => have := (HI.out.held _ _ hh).1; omega
            have HNONE := Lib.hid hnone
            have p0 : w6.cell? ⟨gp, 0, none⟩ = some (.int .i64 s) := kpU.at_ rfl
            have q4 : w6.cell? ⟨g, 4, none⟩ = some (.int .i64 (F1.got : Int)) := HU.blk.at_ rfl
            clear hnone
            by_cases hsg : s ≤ (F1.got : Int)
            · have HF2 : Hid (R = ([], 0, F1)) := Lib.hid (by
                rw [HF.out, inPut_no (.inl hsg), inRun_nil HNONE.out])
              clear HF hFG
              go_quiet (fail)
              go_wp2_with fail
              go_ret2
              rw [HF2.out]
              exact inR_nil rfl (HU.ok (below_drewN' (Below.refl _ _) _)) (Nat.le_refl _) (FU.drewN _)
            · have hsg' : decide (s ≤ (F1.got : Int)) = false := decide_eq_false hsg
              have hfi := fun q => Calls.quiet_of_same (rFind_any s (HU.ok (below_drewN' (Below.refl _ _) q)) (by omega))
              have HFI := Lib.hid hfi
              clear hfi hFG
              by_cases hm : s ∈ ss
              · obtain ⟨j, hj1, hj2⟩ := findI_mem ss 0 hm
                rw [hj2] at HFI
                have hjl : j < ss.length := (List.getElem?_eq_some_iff.1 hj1).1
                have hheld : F1.held s ≠ none := by
                  have := HU.lookL s
                  have e2 : F1.held s = lookL ss bs s := this
                  rw [e2, lookL_at ss bs j HU.nodup hj1 (List.getElem?_eq_getElem (by rw [HU.blen]; exact hjl))]
                  simp
                have HF2 : Hid (R = ([], 0, F1)) := Lib.hid (by
                  rw [HF.out, inPut_no (.inr hheld), inRun_nil HNONE.out])
                have hj0 : (0 : Int) ≤ ((0 + j : Nat) : Int) := by omega
                clear HF hj1 hj2 hheld
                go_quiet (first | (go_at_call 40; exact HFI.out _))
                go_wp2_with fail
                go_ret2
                rw [HF2.out]
                exact inR_nil rfl (HU.ok (below_drewN' (Below.refl _ _) _)) (Nat.le_refl _) (FU.drewN _)
              · rw [findI_notmem ss 0 hm] at HFI
                go_quiet (first | (go_at_call 40; exact HFI.out _))
                have hh0 : F1.held s = none := (HU.lookL s).trans (lookL_none ss bs hm)
                obtain ⟨F2, hF2⟩ : ∃ F2 : EndV, F2 = { F1 with held := fun k => if k = s then some b else F1.held k } := ⟨_, rfl⟩
                have HF2 : Hid (R = ((inRun F2).1, 0, (inRun F2).2)) := Lib.hid (by rw [HF.out, inPut_yes (by omega) hh0, ← hF2])
                have hkeys : ∀ k c, F2.held k = some c → k ≤ (F2.got : Int) + 16 := by
                  intro k c hk
                  have hg2 : F2.got = E.got := by rw [hF2]; exact HFG.out.1
                  rw [hF2] at hk
                  have hk : (if k = s then some b else F1.held k) = some c := hk
                  rw [hg2]
                  by_cases e : k = s
                  · omega
                  · rw [if_neg e, HFG.out.2] at hk
                    exact (HI.out.held k c hk).2.1
                have HKEYS := Lib.hid hkeys
                have hg2 : F2.got ≤ 20000 := by rw [hF2]; show F1.got ≤ _; rw [HFG.out.1]; omega
                have HU7 := HU.ok (below_drewN' (Below.refl _ _) nq)
                have FU7 := FU.drewN nq
                have kp7 : Blk (w6.drewN nq) gp 43 #[.int .i64 s, .int .i64 (α : Int), .slice X y z] := Blk.drewN kpU nq
                have rU7 : Hid (Sl (w6.drewN nq) (.slice X y z) b) := Lib.hid (rU.out.u8 (U8.bel (below_drewN' (Below.refl _ _) nq)))
                clear HU FU kpU rU p0 q4 HFI HF hh0 hkeys
                generalize w6.drewN nq = w7 at *
                obtain ⟨us, ho, hr, hul⟩ := HU7.held
                obtain ⟨AH, dH, rfl, -, -, -⟩ := own_slice ho
                have t5 : w7.cell? ⟨g, 5, none⟩ = some (.slice AH ss.length dH) := HU7.blk.at_ rfl
                have t0 : w7.cell? ⟨gp, 0, none⟩ = some (.int .i64 s) := kp7.at_ rfl
                have t2 : w7.cell? ⟨gp, 2, none⟩ = some (.slice X y z) := kp7.at_ rfl
                obtain ⟨i78, h78, x0, x1, x2⟩ := info_parts info78
                go_upto_region 17 with fail
                have o8 : w7.drew.ownsRow B 78 2 (.slice AH ss.length dH) ss.length (heldCells ss us) := ho
                have H8 := HU7.ok (Below.drew (Below.refl _ _))
                have F8 := FU7.drew
                have r8 : Hid (Sl w7.drew (.slice X y z) b) := Lib.hid (rU7.out.u8 (U8.bel (Below.drew (Below.refl _ _))))
                have hr8 := hr.u8 (U8.bel (show Below w7.heap.size w7 w7.drew from Below.drew (Below.refl _ _)))
                have kp8 : Blk w7.drew gp 43 #[.int .i64 s, .int .i64 (α : Int), .slice X y z] := kp7.drew
                have S0 : Hid (w7.drew.cell? ⟨g, 5, none⟩ = some (.slice AH ss.length dH) ∧ w7.drew.cell? ⟨gp, 0, none⟩ = some (.int .i64 s) ∧ w7.drew.cell? ⟨gp, 2, none⟩ = some (.slice X y z)) := Lib.hid ⟨t5, t0, t2⟩
                clear HU7 FU7 kp7 rU7 t5 t0 t2 ho hr
                obtain ⟨w8, hw8⟩ : ∃ w8, w7.drew = w8 := ⟨_, rfl⟩
                have HW8 := Lib.hid hw8
                rw [hw8] at o8 H8 F8 r8 hr8 kp8
                clear hw8
                have k8 := H8.blk
                have hne8 := own_ne_blk o8 k8 (by decide)
                have hnp8 := own_ne_blk o8 kp8 (by decide)
                have h1v : ∀ u ∈ [Value.int .i64 s, Value.slice X y z], u.oneCell' = true := by
                  intro u hu
                  simp at hu
                  rcases hu with rfl | rfl <;> rfl
                have hB8 : B ≤ w8.heap.size := by have := F8.size; omega
                have hclose : ∀ (A9 : Option Addr) (d9 : Nat) (w9 : World), w9.ownsRow B 78 2 (.slice A9 (ss.length + 1) d9) (ss.length + 1) (heldCells ss us ++ [.int .i64 s, .slice X y z]) → (w8.alloc (.cells #[.int .i64 s, .slice X y z] 78)).grownBy w9 (Value.slice AH ss.length dH).ownBlock → ((Value.slice A9 (ss.length + 1) d9).ownBlock = (Value.slice AH ss.length dH).ownBlock ∨ (Value.slice A9 (ss.length + 1) d9).ownBlock = some (w8.alloc (.cells #[.int .i64 s, .slice X y z] 78)).heap.size) →
                    ∃ v' ss1 bs1, RefAt (w9.setCell ⟨g, 5, none⟩ (.slice A9 (ss.length + 1) d9)) B g (.slice AS S.length dS) v' S ss1 bs1 F2 ∧ Fr (g :: ((Value.slice AS S.length dS).ownBlock.toList ++ (Value.slice AH ss.length dH).ownBlock.toList)) w (w9.setCell ⟨g, 5, none⟩ (.slice A9 (ss.length + 1) d9)) ∧ Hid (v'.ownBlock = (Value.slice AH ss.length dH).ownBlock ∨ v'.ownBlock = none ∨ ∃ i, v'.ownBlock = some i ∧ w.heap.size ≤ i) ∧ Hid (ss1.length ≤ ss.length + 1) := by
                  intro A9 d9 w9 o9 hgr hat
                  have f89 : Fr (Value.slice AH ss.length dH).ownBlock.toList w8 w9 := ((Fr.refl _ w8).alloc _).grown hgr (fun i e => .inl (by rw [e]; simp))
                  have HV : RefAt (w9.setCell ⟨g, 5, none⟩ (.slice A9 (ss.length + 1) d9)) B g (.slice AS S.length dS) (.slice A9 (ss.length + 1) d9) S (ss ++ [s]) (bs ++ [b]) F2 := by
                    rw [hF2]
                    have u89 : U8 w8 w9 := (U8.alloc w8 _).trans (U8.grown hgr (own_not_u8 (o8.alloc _) (by decide)))
                    refine H8.newHeld f89 (fun hm => hne8 (Option.mem_toList.1 hm).symm) (fun i e hm => H8.apart i e (Option.mem_toList.1 hm)) u89 (us' := us ++ [.slice X y z]) ?_ ((hr8.u8 u89).snoc (r8.out.u8 u89)) (by simp [hul]) (nodup_snoc H8.nodup hm) (fun k => ?_)
                    · rw [heldCells_app _ _ _ _ hul, List.length_append, List.length_singleton]
                      exact o9
                    · rw [lookL_snoc ss bs H8.blen hm, ← H8.lookL k]
                  have FV : Fr (g :: ((Value.slice AS S.length dS).ownBlock.toList ++ (Value.slice AH ss.length dH).ownBlock.toList)) w (w9.setCell ⟨g, 5, none⟩ (.slice A9 (ss.length + 1) d9)) :=
                    ((F8.mono (fun i hi => by simp at hi; simp [hi])).next f89 (fun i hi => .inl (by simp at hi ⊢; exact .inr (.inr hi)))).setCell (p := ⟨g, 5, none⟩) (.inl (by simp)) _
                  have HVO : Hid ((Value.slice A9 (ss.length + 1) d9).ownBlock = (Value.slice AH ss.length dH).ownBlock ∨ (Value.slice A9 (ss.length + 1) d9).ownBlock = none ∨ ∃ i, (Value.slice A9 (ss.length + 1) d9).ownBlock = some i ∧ w.heap.size ≤ i) := Lib.hid (by
                    rcases hat with h | h
                    · exact .inl h
                    · exact .inr (.inr ⟨_, h, by have := F8.size; simp; omega⟩))
                  have HS1 : Hid ((ss ++ [s]).length ≤ ss.length + 1) := Lib.hid (by simp)
                  exact ⟨_, _, _, HV, FV, HVO, HS1⟩
                have HCLOSE := Lib.hid hclose
                clear hclose H8 F8 r8 hr8 hF2 HFG HNONE
                go_cut [] from 90 to 103 (fun wx => ∃ v' ss1 bs1, RefAt wx B g (.slice AS S.length dS) v' S ss1 bs1 F2 ∧ Fr (g :: ((Value.slice AS S.length dS).ownBlock.toList ++ (Value.slice AH ss.length dH).ownBlock.toList)) w wx ∧ Hid (v'.ownBlock = (Value.slice AH ss.length dH).ownBlock ∨ v'.ownBlock = none ∨ ∃ i, v'.ownBlock = some i ∧ w.heap.size ≤ i) ∧ Hid (ss1.length ≤ ss.length + 1))
                case first =>
                  refine wp_region_but (fun W => W.cell? ⟨g, 5, none⟩ = some (.slice AH ss.length dH) ∧ W.cell? ⟨gp, 0, none⟩ = some (.int .i64 s) ∧ W.cell? ⟨gp, 2, none⟩ = some (.slice X y z)) [14] (by kernel_rfl) S0.out fun hS0 => ?_
                  rw [HW8.out] at hS0 ⊢
                  refine wpBut_pure 0 (v := (.pointer (some ⟨g, 0, none⟩))) rfl (by kernel_rfl) (fun _ _ _ h => h) ⟨by rfl, fun W => ?_⟩ (fun _ => hS0) ?_
                  · go_simp
                  simp only [Act.put, List.setIfInBounds_toArray, List.set_cons_zero, List.set_cons_succ]
                  refine wpBut_pure 1 (v := (.pointer (some ⟨g, 0, none⟩))) rfl (by kernel_rfl) (fun _ _ _ h => h) ⟨by rfl, fun W => ?_⟩ (fun _ => hS0) ?_
                  · go_simp
                  simp only [Act.put, List.setIfInBounds_toArray, List.set_cons_zero, List.set_cons_succ]
                  refine wpBut_pure 2 (v := (.pointer (some ⟨g, 0, none⟩))) rfl (by kernel_rfl) (fun _ _ _ h => h) ⟨by rfl, fun W => ?_⟩ (fun _ => hS0) ?_
                  · go_simp
                  simp only [Act.put, List.setIfInBounds_toArray, List.set_cons_zero, List.set_cons_succ]
                  refine wpBut_pure 3 (v := (.pointer (some ⟨g, 5, none⟩))) rfl (by kernel_rfl) (fun _ _ _ h => h) ⟨by rfl, fun W => ?_⟩ (fun _ => hS0) ?_
                  · go_simp
                  simp only [Act.put, List.setIfInBounds_toArray, List.set_cons_zero, List.set_cons_succ]
                  refine wpBut_takeF 4 6 (v := (.slice AH ss.length dH)) rfl (by kernel_rfl) (fun _ _ _ h => h) ⟨by rfl, fun W hW => ?_⟩ hS0 ?_
                  · obtain ⟨s1, s3, s4⟩ := hW
                    go_simp
                  simp only [Act.put, List.setIfInBounds_toArray, List.set_cons_zero, List.set_cons_succ]
                  refine wpBut_pure 5 (v := (.pointer (some ⟨gp, 0, none⟩))) rfl (by kernel_rfl) (fun _ _ _ h => h) ⟨by rfl, fun W => ?_⟩ (fun _ => hS0) ?_
                  · go_simp
                  simp only [Act.put, List.setIfInBounds_toArray, List.set_cons_zero, List.set_cons_succ]
                  refine wpBut_takeF 6 6 (v := (.int .i64 s)) rfl (by kernel_rfl) (fun _ _ _ h => h) ⟨by rfl, fun W hW => ?_⟩ hS0 ?_
                  · obtain ⟨s1, s3, s4⟩ := hW
                    go_simp
                  simp only [Act.put, List.setIfInBounds_toArray, List.set_cons_zero, List.set_cons_succ]
                  refine wpBut_pure 7 (v := (.pointer (some ⟨gp, 2, none⟩))) rfl (by kernel_rfl) (fun _ _ _ h => h) ⟨by rfl, fun W => ?_⟩ (fun _ => hS0) ?_
                  · go_simp
                  simp only [Act.put, List.setIfInBounds_toArray, List.set_cons_zero, List.set_cons_succ]
                  refine wpBut_takeF 8 6 (v := (.slice X y z)) rfl (by kernel_rfl) (fun _ _ _ h => h) ⟨by rfl, fun W hW => ?_⟩ hS0 ?_
                  · obtain ⟨s1, s3, s4⟩ := hW
                    go_simp
                  simp only [Act.put, List.setIfInBounds_toArray, List.set_cons_zero, List.set_cons_succ]
                  refine wpBut_pure 9 (v := (.agg #[.int .i64 s, .slice X y z])) rfl (by kernel_rfl) (fun _ _ _ h => h) ⟨by rfl, fun W => ?_⟩ (fun _ => hS0) ?_
                  · go_simp
                  simp only [Act.put, List.setIfInBounds_toArray, List.set_cons_zero, List.set_cons_succ]
                  refine wpBut_one 10 rfl (by kernel_rfl) fun K hK => ?_
                  go_simp
                  refine hK.out _ _ ⟨(k8.alloc _).at_ rfl, (kp8.alloc _).at_ rfl, (kp8.alloc _).at_ rfl⟩ fun hS1 => ?_
                  clear hK K
                  refine wpBut_one 11 rfl (by kernel_rfl) fun K hK => ?_
                  rw [if_pos (by rfl)]
                  refine wp_append_own_at _ _ 29 rfl B 78 i78 (.agg #[.int .i64 0, .slice none 0 0]) 2 32 Try.underlying29 h78 x0 x1 x2 rfl (by decide) _ _ _ rfl (o8.alloc _) ⟨w8.heap.size, 0, none⟩ 1 1 [.int .i64 s, .slice X y z] rfl rfl (cell_two _ _ _ _) h1v (by unfold maxLen; omega) (by omega) (by simp; omega) ?_
                  intro v9 w9 o9 hg9 hat9
                  have k9 := (k8.alloc _).grown hg9 (fun e => hne8 e)
                  have kp9 := (kp8.alloc _).grown hg9 (fun e => hnp8 e)
                  obtain ⟨A9, d9, rfl, -, -, -⟩ := own_slice o9
                  have t9 : w9.cell? ⟨g, 5, none⟩ = some (.slice AH ss.length dH) := k9.at_ rfl
                  have f9 := k9.frozen 5
                  refine hK.out _ _ ⟨k9.at_ rfl, kp9.at_ rfl, kp9.at_ rfl⟩ fun hS2 => ?_
                  clear hK K
                  refine wpBut_pure 12 (v := (.pointer (some ⟨g, 0, none⟩))) rfl (by kernel_rfl) (fun _ _ _ h => h) ⟨by rfl, fun W => ?_⟩ (fun _ => hS2) ?_
                  · go_simp
                  simp only [Act.put, List.setIfInBounds_toArray, List.set_cons_zero, List.set_cons_succ]
                  refine wpBut_pure 13 (v := (.pointer (some ⟨g, 5, none⟩))) rfl (by kernel_rfl) (fun _ _ _ h => h) ⟨by rfl, fun W => ?_⟩ (fun _ => hS2) ?_
                  · go_simp
                  simp only [Act.put, List.setIfInBounds_toArray, List.set_cons_zero, List.set_cons_succ]
                  refine wpBut_seq 14 (g := 0) (by decide) (by decide) (by rfl) (by kernel_rfl) ?_
                  simp only [List.drop_succ_cons, List.drop_zero]
                  go_wp2_with fail
                  go_meet
                  exact HCLOSE.out A9 d9 w9 o9 hg9 hat9
                case rest =>
                  obtain ⟨vH1, ss1, bs1, HV, FV, HVO, HS1⟩ := hcut
                  clear HCLOSE S0 HW8 k8 kp8 hne8 hnp8 o8 h1v
                  go_wp2_with fail
                  go_loopw [10] (fun v wr => ∃ (L : List (List UInt8)) (vs : List Value) (vH2 : Value) (ss2 : List Int) (bs2 : List (List UInt8)), wr.ownsRow w.heap.size 33 1 v L.length vs ∧ Rws wr vs L ∧ Hid (runD F2.held 17 F2.got = L ++ runD F2.held (17 - L.length) (F2.got + L.length)) ∧ L.length ≤ 16 ∧ RefAt wr B g (.slice AS S.length dS) vH2 S ss2 bs2 { F2 with got := F2.got + L.length, held := cutH F2.held F2.got L.length } ∧ ss2.length ≤ ss.length + 1 ∧ Hid (vH2.ownBlock = (Value.slice AH ss.length dH).ownBlock ∨ vH2.ownBlock = none ∨ ∃ i, vH2.ownBlock = some i ∧ w.heap.size ≤ i) ∧ Fr (g :: ((Value.slice AS S.length dS).ownBlock.toList ++ (Value.slice AH ss.length dH).ownBlock.toList)) w wr) (fun v _ => 17 - lenV v)
                  case atStart => exact ⟨[], [], _, ss1, bs1, World.ownsRow_nil _ _ _ _, Rws.nil_ _, Lib.hid rfl, by simp, by simpa [cutH_zero] using HV, HS1.out, HVO, FV⟩
                  case round =>
                    clear HV HVO FV
                    obtain ⟨L, vs, vH2, ss2, bs2, ho, hr, HR, hL, H, hs2, HVO, hf⟩ := hrel
                    obtain ⟨A3, c3, rfl, -, -, -⟩ := own_slice ho
                    obtain ⟨G, hG⟩ : ∃ G : Nat, G = F2.got + L.length := ⟨_, rfl⟩
                    have hG1 : (G : Int) ≤ 30000 := by omega
                    have q4 : wr.cell? ⟨g, 4, none⟩ = some (.int .i64 ((F2.got + L.length : Nat) : Int)) := H.blk.at_ rfl
                    have hcut := cutH_at F2.held F2.got L.length
                    have hlk : F2.held (((F2.got + L.length : Nat) : Int) + 1) = lookL ss2 bs2 (((F2.got + L.length : Nat) : Int) + 1) := by rw [← hcut]; exact H.lookL _
                    rw [← hG] at q4 hlk
                    have HG := Lib.hid hG
                    have hw1 : IntKind.i64.wrap ((G : Int) + 1) = (G : Int) + 1 := by rw [IntKind.wrap_i64]; omega
                    have hfi := rFind_any ((G : Int) + 1) H (by omega)
                    have HFI := Lib.hid hfi
                    clear hG hcut hfi
                    cases hfk : F2.held ((G : Int) + 1) with
                    | none =>
                      rw [hfk] at hlk
                      have hnot : (G : Int) + 1 ∉ ss2 := by
                        intro hm2
                        obtain ⟨j, hj1, -⟩ := findI_mem ss2 0 hm2
                        have hjl : j < ss2.length := (List.getElem?_eq_some_iff.1 hj1).1
                        rw [lookL_at ss2 bs2 j H.nodup hj1 (List.getElem?_eq_getElem (by rw [H.blen]; exact hjl))] at hlk
                        cases hlk
                      rw [findI_notmem ss2 0 hnot] at HFI
                      have HL2 : Hid (runD F2.held 17 F2.got = L) := Lib.hid (by rw [HR.out, ← HG.out, runD_none hfk (by omega), List.append_nil])
                      have HVL : Hid (vs.length = L.length) := Lib.hid (by have := ho.1; omega)
                      have HH := Lib.hid (And.intro ho (And.intro hr (And.intro H hf)))
                      clear ho hr H hf hlk hnot hfk
                      go_wp2_with fail
                      refine HFI.out.mono ?_
                      rintro - wr ⟨rfl, rfl⟩
                      go_wp2_with fail
                      go_ret2
                      obtain ⟨h1, h2, h3, h4⟩ := HH.out
                      rw [HF2.out]
                      unfold inRun
                      rw [HL2.out]
                      exact ⟨_, vs, vH2, ss2, bs2, rfl, by rw [HVL.out]; exact h1, h2, h3, hs2, HVO.out, h4⟩
                    | some bb =>
                      have hL16 : L.length < 16 := by have := HKEYS.out _ _ hfk; have := HG.out; omega
                      rw [hfk] at hlk
                      obtain ⟨j, hj1, hj2⟩ := findI_mem ss2 0 (lookL_mem hlk.symm)
                      rw [hj2, Nat.zero_add] at HFI
                      have hjl : j < ss2.length := (List.getElem?_eq_some_iff.1 hj1).1
                      have hbl := H.blen
                      obtain ⟨us2, hro, hru, hul2⟩ := H.held
                      obtain ⟨AH2, dH2, rfl, hdH2, -, -⟩ := own_slice hro
                      obtain ⟨bH, cap, hv, -⟩ := hro.form (by omega)
                      injection hv with hv1 hv2 hv3
                      subst hv1
                      obtain ⟨X2, y2, z2, m2, hu2, hb2, hyz2, hby2⟩ := hru.at_ (i := j) (by omega)
                      have em : m2 = bb := by
                        have := lookL_at ss2 bs2 j H.nodup hj1 hb2
                        rw [← hlk] at this
                        injection this with this
                        exact this.symm
                      subst em
                      have hcl := hro.cells (g := bH) rfl (2 * j + 1) _ ((heldCells_at ss2 us2 j hul2 hjl).2.trans hu2)
                      rw [addr_add0] at hcl
                      have hcl2 := hcl
                      rw [Nat.mul_comm] at hcl2
                      have q5 : wr.cell? ⟨g, 5, none⟩ = some (.slice (some ⟨bH, 0, none⟩) ss2.length dH2) := H.blk.at_ rfl
                      have hji : (j : Int) < (ss2.length : Int) := by omega
                      have hji0 : (0 : Int) ≤ (j : Int) := by omega
                      clear hlk hv2 hv3 hj2
                      go_wp2_with fail
                      refine HFI.out.mono ?_
                      rintro - wr ⟨rfl, rfl⟩
                      go_wp2_with fail
                      refine HFI.out.mono ?_
                      rintro - wr ⟨rfl, rfl⟩
                      have hgb := H0.out.lt
                      have hout : ∀ i, (Value.slice A3 L.length c3).ownBlock = some i → w.heap.size ≤ i := fun i e => (ho.lt i e).1
                      obtain ⟨i33, h33, zz0, zz1, zz2⟩ := info_parts info33
                      have h1v : ∀ u ∈ [Value.slice X2 y2 z2], u.oneCell' = true := by
                        intro u hu
                        simp at hu
                        subst hu
                        rfl
                      have hbs : w.heap.size ≤ wr.heap.size := hf.size
                      go_upto_region 22 with (at_builtin; refine wpList_append_own_at _ rfl _ _ 28 rfl w.heap.size 33 i33 (.slice none 0 0) 1 24 Try.underlying28 h33 zz0 zz1 zz2 rfl (by decide) _ _ _ rfl (ho.alloc _) ⟨wr.heap.size, 0, none⟩ 1 1 [.slice X2 y2 z2] rfl rfl (cell_one_new _ _ _) h1v (by unfold maxLen; omega) (by omega) (by simp; omega) ?_; intro v11 w11 o11 hg11 hn11 hat11; obtain ⟨A11, c11, rfl, -, -, -⟩ := own_slice o11)
                      have hgr11 : (wr.alloc (.cells #[.slice X2 y2 z2] 33)).grownBy w11 (Value.slice A3 L.length c3).ownBlock := hg11
                      have FA : Fr (Value.slice A3 L.length c3).ownBlock.toList wr w11 := ((Fr.refl _ wr).alloc _).grown hgr11 (fun i e => .inl (by rw [e]; simp))
                      have uA : U8 wr w11 := (U8.alloc wr _).trans (U8.grown hgr11 (own_not_u8 (ho.alloc _) (by decide)))
                      have hap := own_apart ho hro (by decide)
                      have H11 := H.fr FA (fun hm => by have := hout g (Option.mem_toList.1 hm); omega) (fun i e hm => by have := hout i (Option.mem_toList.1 hm); have := hgb i (.inr (.inl e)); omega) (fun i e hm => hap i (Option.mem_toList.1 hm) e) uA
                      have hro11 := own_fr hro FA (fun i e hm => hap i (Option.mem_toList.1 hm) e)
                      have hr11 := (hr.u8 uA).snoc (⟨X2, y2, z2, rfl, hyz2, hby2.u8 uA⟩ : Sl w11 (.slice X2 y2 z2) m2)
                      have hru11 := hru.u8 uA
                      have hf11 := hf.next FA (fun i hi => .inr (hout i (Option.mem_toList.1 hi)))
                      have HO11 := Lib.hid (And.intro o11 hr11)
                      clear ho hr H hro hru hf hgr11 hg11 hn11 hat11 FA uA hap hcl hcl2 q4 q5 HFI hby2 hout o11 hr11 h1v
                      have q5 : w11.cell? ⟨g, 5, none⟩ = some (.slice (some ⟨bH, 0, none⟩) ss2.length dH2) := H11.blk.at_ rfl
                      obtain ⟨news, hnews⟩ : ∃ news, news = (heldCells ss2 us2).take (2 * j) := ⟨_, rfl⟩
                      have hclen := heldCells_len ss2 us2 hul2
                      have s1 : news.length = j * 2 := by rw [hnews, List.length_take]; omega
                      have s2 : ∀ t u, news[t]? = some u → w11.cell? ((⟨bH, 0, none⟩ : Addr).add t) = some u := fun t u hu => by
                        rw [hnews, List.getElem?_take] at hu
                        split at hu
                        · exact hro11.cells (g := bH) rfl t u hu
                        · cases hu
                      have s3 : ∀ u ∈ news, u.oneCell' = true := fun u hu => heldCells_one ss2 us2 bs2 hru11 u (by rw [hnews] at hu; exact List.mem_of_mem_take hu)
                      have hjd : (j : Int) ≤ (dH2 : Int) := by omega
                      have hjd2 : j ≤ dH2 := by omega
                      have hB11 : w.heap.size ≤ w11.heap.size := hf11.size
                      go_upto_region 24 with (at_builtin; refine wpList_append_own_at _ rfl _ _ 29 rfl w.heap.size 78 i78 (.agg #[.int .i64 0, .slice none 0 0]) 2 32 Try.underlying29 h78 x0 x1 x2 rfl (by decide) (.slice none 0 0) 0 [] rfl (World.ownsRow_nil _ _ _ _) ⟨bH, 0, none⟩ j dH2 news (by simp [Act.eval, Act.put]) s1 s2 s3 (by unfold maxLen; omega) (by omega) hB11 ?_; intro v12 w12 o12 hg12 hn12 hat12; rw [Nat.zero_add, List.nil_append] at o12; obtain ⟨A12, c12, rfl, -, -, -⟩ := own_slice o12)
                      have b12 : Below w11.heap.size w11 w12 := (Below.refl _ _).grown hg12 (Nat.le_refl _) (fun i e => by cases e)
                      have H12 := H11.ok b12
                      have hro12 := own_ok hro11 b12
                      have hru12 := hru11.u8 (U8.bel b12)
                      have hf12 := hf11.bel b12
                      have HO12 : Hid (w12.ownsRow w.heap.size 33 1 (.slice A11 (L.length + 1) c11) (L.length + 1) (vs ++ [.slice X2 y2 z2]) ∧ Rws w12 (vs ++ [.slice X2 y2 z2]) (L ++ [m2])) := Lib.hid ⟨own_ok HO11.out.1 b12, HO11.out.2.u8 (U8.bel b12)⟩
                      clear H11 hro11 hru11 hf11 HO11 hg12 hn12 hat12 s1 s2 s3 q5 b12
                      have q5 : w12.cell? ⟨g, 5, none⟩ = some (.slice (some ⟨bH, 0, none⟩) ss2.length dH2) := H12.blk.at_ rfl
                      obtain ⟨rest, hrest⟩ : ∃ rest, rest = (heldCells ss2 us2).drop (2 * (j + 1)) := ⟨_, rfl⟩
                      obtain ⟨m, hmm⟩ : ∃ m, m = ss2.length - (j + 1) := ⟨_, rfl⟩
                      have s1 : rest.length = m * 2 := by rw [hrest, List.length_drop]; omega
                      obtain ⟨AR, hAR, s2⟩ : ∃ AR : Addr, (if dH2 = j + 1 then some (⟨bH, 0, none⟩ : Addr) else some ⟨bH, (j + 1) * 2, none⟩) = some AR ∧ Hid (∀ t u, rest[t]? = some u → w12.cell? (AR.add t) = some u) := by
                        by_cases hd : dH2 = j + 1
                        · refine ⟨⟨bH, 0, none⟩, by rw [if_pos hd], Lib.hid fun t u hu => ?_⟩
                          have : rest = [] := List.eq_nil_of_length_eq_zero (by omega)
                          rw [this] at hu
                          cases hu
                        · refine ⟨⟨bH, (j + 1) * 2, none⟩, by rw [if_neg hd], Lib.hid fun t u hu => ?_⟩
                          rw [hrest, List.getElem?_drop] at hu
                          have := hro12.cells (g := bH) rfl _ u hu
                          rw [addr_add0] at this
                          rw [Addr.add_lit, Nat.mul_comm]
                          exact this
                      have s3 : ∀ u ∈ rest, u.oneCell' = true := fun u hu => heldCells_one ss2 us2 bs2 hru12 u (by rw [hrest] at hu; exact List.mem_of_mem_drop hu)
                      have hji1 : (j : Int) + 1 ≤ (ss2.length : Int) := by omega
                      have hji2 : (j : Int) + 1 ≤ (dH2 : Int) := by omega
                      have hjw : IntKind.i64.wrap ((j : Int) + 1) = (j : Int) + 1 := by rw [IntKind.wrap_i64]; omega
                      have HMM := Lib.hid hmm
                      have HRE := Lib.hid (And.intro hnews hrest)
                      have hB12 : w.heap.size ≤ w12.heap.size := hf12.size
                      have hmb : j + m ≤ 100000 := by omega
                      clear hrest hnews hmm
                      go_upto_region 25 with (at_builtin; refine wpList_append_own_at _ rfl _ _ 29 rfl w.heap.size 78 i78 (.agg #[.int .i64 0, .slice none 0 0]) 2 32 Try.underlying29 h78 x0 x1 x2 rfl (by decide) (.slice A12 j c12) j news rfl o12 AR m (dH2 - (j + 1)) rest (by simp [Act.eval, Act.put, hAR, HMM.out]) s1 s2.out s3 (by unfold maxLen; omega) (by omega) hB12 ?_; intro v13 w13 o13 hg13 hn13 hat13; obtain ⟨A13, c13, rfl, -, -, -⟩ := own_slice o13; have k13 := H12.blk.grown hg13 (fun e => by have := (o12.lt _ e.symm).1; omega); have t13 : w13.cell? ⟨g, 5, none⟩ = some (.slice (some ⟨bH, 0, none⟩) ss2.length dH2) := k13.at_ rfl; have f13 := k13.frozen 5)
                      have hgr13 : w12.grownBy w13 (Value.slice A12 j c12).ownBlock := hg13
                      have hleft : ∀ i, i ∈ (Value.slice A12 j c12).ownBlock.toList → w.heap.size ≤ i := fun i hi => (o12.lt i (Option.mem_toList.1 hi)).1
                      have FB : Fr (Value.slice A12 j c12).ownBlock.toList w12 w13 := (Fr.refl _ w12).grown hgr13 (fun i e => .inl (by rw [e]; simp))
                      have uB : U8 w12 w13 := U8.grown hgr13 (own_not_u8 o12 (by decide))
                      have hle : (ss2.eraseIdx j).length = j + m := by rw [List.length_eraseIdx, if_pos hjl, HMM.out]; omega
                      have oL : w13.ownsRow B 78 2 (.slice A13 (j + m) c13) (ss2.eraseIdx j).length (heldCells (ss2.eraseIdx j) (us2.eraseIdx j)) := by
                        rw [heldCells_erase ss2 us2 j hul2, hle, ← HRE.out.1, ← HRE.out.2]
                        exact own_le o13 hB
                      have hcs := cutH_succ F2.held F2.got L.length
                      have HFIN := H12.newHeld (w1 := w13) (us' := us2.eraseIdx j) (ss' := ss2.eraseIdx j) (bs' := bs2.eraseIdx j) (held' := cutH F2.held F2.got (L.length + 1)) FB (fun hm => by have := hleft g hm; omega) (fun i e hm => by have := hleft i hm; have := hgb i (.inr (.inl e)); omega) uB oL ((hru12.u8 uB).erase j) (by rw [List.length_eraseIdx, List.length_eraseIdx, hul2]) (nodup_erase H12.nodup j) (fun k => by
                        rw [lookL_erase ss2 bs2 j H12.blen H12.nodup hj1, ← H12.lookL k, HG.out]
                        exact (congrFun hcs k).symm)
                      have hkb := H12.blk
                      have hoap := own_apart HO12.out.1 o12 (by decide)
                      have HEND := Lib.hid (And.intro hleft (And.intro FB (And.intro hkb (And.intro hoap (And.intro o12 (And.intro o13 (And.intro hle hf12)))))))
                      have t4 : (w13.setCell ⟨g, 5, none⟩ (.slice A13 (j + m) c13)).cell? ⟨g, 4, none⟩ = some (.int .i64 (G : Int)) := by
                        have h := HFIN.blk.at_ (i := 4) (v := .int .i64 ((F2.got + L.length : Nat) : Int)) rfl
                        rw [← HG.out] at h
                        exact h
                      have f4 := HFIN.blk.frozen 4
                      have t43 : w13.cell? ⟨g, 4, none⟩ = some (.int .i64 (G : Int)) := by
                        have h := k13.at_ (i := 4) (v := .int .i64 ((F2.got + L.length : Nat) : Int)) rfl
                        rw [← HG.out] at h
                        exact h
                      have f43 := k13.frozen 4
                      have HFF := Lib.hid HFIN
                      clear HFIN hleft FB hkb hoap hf12 oL hcs uB hgr13 hg13 hn13 hat13 H12 hro12 hru12 o12 o13 s1 s2 s3 q5 hle t13 f13 k13
                      go_wp2_with fail
                      obtain ⟨hleft, FB, hkb, hoap, o12, o13, hle, hf12⟩ := HEND.out
                      have HG2 := HFF.out.setGot (G + 1)
                      rw [show ((G + 1 : Nat) : Int) = (G : Int) + 1 by omega] at HG2
                      have FC : Fr (g :: (Value.slice A12 j c12).ownBlock.toList) w12 ((w13.setCell ⟨g, 5, none⟩ (.slice A13 (j + m) c13)).setCell ⟨g, 4, none⟩ (.int .i64 ((G : Int) + 1))) :=
                        ((FB.mono (fun i hi => List.mem_cons_of_mem _ hi)).setCell (p := ⟨g, 5, none⟩) (.inl (by simp)) _).setCell (p := ⟨g, 4, none⟩) (.inl (by simp)) _
                      have uC : U8 w12 ((w13.setCell ⟨g, 5, none⟩ (.slice A13 (j + m) c13)).setCell ⟨g, 4, none⟩ (.int .i64 ((G : Int) + 1))) := FC.u8 fun k hk cs z e => by
                        rcases List.mem_cons.1 hk with rfl | hk
                        · have hb2 : w12.heap[k]? = _ := hkb
                          rw [hb2] at e
                          injection e with e
                          cases e
                        · exact own_not_u8 o12 (by decide) k (Option.mem_toList.1 hk) cs z e
                      have eL : (L ++ [m2]).length = L.length + 1 := by simp
                      have hoF := own_fr HO12.out.1 FC (fun i e hm => by
                        rcases List.mem_cons.1 hm with rfl | hm
                        · have := (HO12.out.1.lt i e).1; omega
                        · exact hoap i e (Option.mem_toList.1 hm))
                      have hfF := hf12.next FC (fun i hi => by
                        rcases List.mem_cons.1 hi with rfl | hi
                        · exact .inl (by simp)
                        · exact .inr (hleft i hi))
                      have hfin : Hid (runD F2.held 17 F2.got = (L ++ [m2]) ++ runD F2.held (17 - (L ++ [m2]).length) (F2.got + (L ++ [m2]).length)) := Lib.hid (by
                        rw [HR.out, ← HG.out, runD_some hfk (by omega), eL, HG.out]
                        simp [Nat.sub_sub, Nat.add_assoc])
                      have HG3 : RefAt ((w13.setCell ⟨g, 5, none⟩ (.slice A13 (j + m) c13)).setCell ⟨g, 4, none⟩ (.int .i64 ((G : Int) + 1))) B g (.slice AS S.length dS) (.slice A13 (j + m) c13) S (ss2.eraseIdx j) (bs2.eraseIdx j) { F2 with got := F2.got + (L ++ [m2]).length, held := cutH F2.held F2.got (L ++ [m2]).length } := by
                        rw [eL, show F2.got + (L.length + 1) = G + 1 by have := HG.out; omega]
                        exact HG2
                      have hvo : Hid ((Value.slice A13 (j + m) c13).ownBlock = (Value.slice AH ss.length dH).ownBlock ∨ (Value.slice A13 (j + m) c13).ownBlock = none ∨ ∃ i, (Value.slice A13 (j + m) c13).ownBlock = some i ∧ w.heap.size ≤ i) := Lib.hid (by
                        cases ho : (Value.slice A13 (j + m) c13).ownBlock with
                        | none => exact .inr (.inl rfl)
                        | some i => exact .inr (.inr ⟨i, rfl, (o13.lt i ho).1⟩))
                      exact ⟨⟨L ++ [m2], vs ++ [.slice X2 y2 z2], _, _, _, by rw [eL]; exact hoF, HO12.out.2.u8 uC, hfin, by omega, HG3, by rw [hle, HMM.out]; omega, hvo, hfF⟩, by simp [lenV]; omega⟩
end Go.Proofs.Ytbekkndkdfmijaa
