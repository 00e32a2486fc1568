/- The plain law of progress: what a packet of the other end does where none is held, and what half a round does. Nothing of the program stands here. -/
import Derived.Test.YtbekkndkdfmijaaKt
set_option linter.unusedSimpArgs false
set_option linter.unusedVariables false
namespace Go.Proofs.Ytbekkndkdfmijaa
open Go.RowKit Go

/-- the messages: one byte each -/
def msgs (m : Nat) : List (List UInt8) := (List.range m).map fun i => [byt i]
theorem msgs_len (m : Nat) : (msgs m).length = m := by simp [msgs]
theorem msgs_get {m i : Nat} (h : i < m) : (msgs m)[i]? = some [byt i] := by simp [msgs, h]
theorem msgs_succ (m : Nat) : msgs (m + 1) = msgs m ++ [[byt m]] := by simp [msgs, List.range_succ]
theorem msgs_le (m : Nat) : ∀ l ∈ msgs m, l.length ≤ 100 := by
  intro l hl
  simp only [msgs, List.mem_map] at hl
  obtain ⟨i, -, rfl⟩ := hl
  simp
/-- nothing is held -/
def NoHeld (E : EndV) : Prop := ∀ s, E.held s = none
section
variable {key og : Nat} {E : EndV} {own other : List (List UInt8)}
theorem pk_read {s a : Nat} {b : List UInt8} (hs : s ≤ 1000000) (ha : a ≤ 1000000) (hb : b.length ≤ 100) (h0 : s = 0 → b = []) : readP (pktB (s : Int) (a : Int) b) = some ((s : Int), (a : Int), b) := by
  refine read_pkt _ _ b (by unfold I64; omega) (by unfold I64; omega) ?_
  have h2 : 0 < (s : Int) ∨ b.length = 0 := by
    rcases Nat.eq_zero_or_pos s with h | h
    · exact .inr (by rw [h0 h]; rfl)
    · exact .inl (by omega)
  have h3 : (decide (0 < (s : Int)) || decide (b.length = 0)) = true := by simpa using h2
  have h4 : b.length ≤ 65536 := Nat.le_trans hb (by omega)
  unfold pktOk
  rw [h3, decide_eq_true (by omega : (0 : Int) ≤ (s : Int)), decide_eq_true (by omega : (0 : Int) ≤ (a : Int)), decide_eq_true h4]
  rfl
theorem inF_pk {s a : Nat} {b : List UInt8} (hk : E.key = key) (hs : s ≤ 1000000) (ha : a ≤ 1000000) (hb : b.length ≤ 100) (h0 : s = 0 → b = []) : inF E (sealL key (pktB (s : Int) (a : Int) b)) = ((inP E s a b).1, 0, (inP E s a b).2) := by
  unfold inF
  rw [hk, open_seal]
  dsimp only
  rw [pk_read hs ha hb h0]
theorem inAck_ack {a : Nat} (h : E.ack ≤ a) : (inAck E (a : Int)).ack = a := by
  unfold inAck
  split
  · show (a : Int).toNat = a; omega
  · omega
theorem inAck_owe (a : Int) : (inAck E a).owe = E.owe := by unfold inAck; split <;> rfl
/-- an acknowledgement alone -/
theorem in_zero (I : EndI key E own other og) {a : Nat} (h1 : E.ack ≤ a) (h2 : a ≤ own.length) (h3 : own.length ≤ 1000000) :
    ∃ E', inF E (sealL key (pktB ((0 : Nat) : Int) (a : Int) [])) = ([], 0, E') ∧ E'.ack = a ∧ E'.got = E.got ∧ E'.owe = E.owe ∧ E'.held = E.held := by
  refine ⟨inAck E (a : Int), ?_, inAck_ack h1, inAck_got _ _, inAck_owe _, inAck_held _ _⟩
  rw [inF_pk I.key (by omega) (by omega) (by simp) (fun _ => rfl)]
  have hw := I.waitLen
  unfold inP
  rw [if_neg (by omega), if_pos (by omega)]
/-- a message that is the next one or an elder one -/
theorem in_next (I : EndI key E own other og) (hH : NoHeld E) {s a : Nat} {b : List UInt8} (h1 : E.ack ≤ a) (h2 : a ≤ own.length) (h3 : own.length ≤ 1000000) (hs0 : 0 < s) (hs : s ≤ E.got + 1) (hg : E.got ≤ 1000) (hb : b.length ≤ 100) :
    ∃ x E', inF E (sealL key (pktB (s : Int) (a : Int) b)) = (x, 0, E') ∧ E'.ack = a ∧ E'.owe = true ∧ NoHeld E' ∧ ((s ≤ E.got ∧ x = [] ∧ E'.got = E.got) ∨ (s = E.got + 1 ∧ x = [b] ∧ E'.got = E.got + 1)) := by
  have hw := I.waitLen
  rw [inF_pk I.key (by omega) (by omega) hb (fun h => by omega)]
  refine ⟨_, _, rfl, ?_⟩
  have hA := inAck_ack h1
  have hG := inAck_got E (a : Int)
  have hHl := inAck_held E (a : Int)
  unfold inP
  rw [if_neg (by omega), if_neg (by omega)]
  generalize inAck E (a : Int) = F at *
  by_cases hlt : s = E.got + 1
  · have hP : inPut { F with owe := true } (s : Int) b = { F with owe := true, held := fun k => if k = (s : Int) then some b else F.held k } := by
      unfold inPut
      rw [if_pos ⟨by show (F.got : Int) < (s : Int); omega, by show F.held (s : Int) = none; rw [hHl]; exact hH _⟩]
    rw [hP]
    have hr : runD (fun k => if k = (s : Int) then some b else F.held k) 17 F.got = [b] := by
      rw [runD_some (b := b) (by rw [if_pos (by omega)]) (by omega), runD_none (by rw [if_neg (by omega), hHl]; exact hH _) (by omega)]
    unfold inRun
    dsimp only
    rw [hr]
    refine ⟨hA, rfl, fun k => ?_, .inr ⟨hlt, rfl, by show F.got + 1 = E.got + 1; omega⟩⟩
    show cutH (fun k => if k = (s : Int) then some b else F.held k) F.got 1 k = none
    unfold cutH
    split
    · rfl
    · dsimp only; rw [if_neg (by omega), hHl]; exact hH _
  · have hP : inPut { F with owe := true } (s : Int) b = { F with owe := true } := by
      unfold inPut
      rw [if_neg (fun h => by have h5 : (F.got : Int) < (s : Int) := h.1; omega)]
    rw [hP]
    have hr : runD F.held 17 F.got = [] := runD_none (by rw [hHl]; exact hH _) (by omega)
    unfold inRun
    dsimp only
    rw [hr]
    refine ⟨hA, rfl, fun k => ?_, .inl ⟨by omega, rfl, by show F.got + 0 = E.got; omega⟩⟩
    show cutH F.held F.got 0 k = none
    rw [cutH_zero, hHl]
    exact hH _
end
/-! ### half a round: k's packets are brought to the other end -/
/-- the two ends between the halves -/
structure PInv (key : Nat) (M : Nat → Nat) (E : Nat → EndV) : Prop where
  ends : ∀ k, k < 2 → EndI key (E k) (msgs (M k)) (msgs (M (1 - k))) (E (1 - k)).got
  nohd : ∀ k, k < 2 → NoHeld (E k)
  owes : ∀ k, k < 2 → (E k).owe = true ∨ (E (1 - k)).ack = (E k).got
/-- within half a round of k: i packets of F are there; E0 is how it was ahead of the half -/
structure Half (key : Nat) (M : Nat → Nat) (k : Nat) (E0 E : Nat → EndV) (i : Nat) : Prop where
  ends : ∀ k, k < 2 → EndI key (E k) (msgs (M k)) (msgs (M (1 - k))) (E (1 - k)).got
  nohd : ∀ k, k < 2 → NoHeld (E k)
  me : E k = { E0 k with owe := false }
  ack : 0 < i → (E (1 - k)).ack = (E0 k).got
  ack0 : i = 0 → (E (1 - k)).ack = (E0 (1 - k)).ack
  got : outN (E0 k) ≠ 0 → min (M k) ((E0 k).ack + i) ≤ (E (1 - k)).got
  owe : outN (E0 k) ≠ 0 → 0 < i → (E (1 - k)).owe = true
  same : i = 0 ∨ outN (E0 k) = 0 → (E (1 - k)).owe = (E0 (1 - k)).owe ∧ (E (1 - k)).got = (E0 (1 - k)).got
  up : (E0 (1 - k)).got ≤ (E (1 - k)).got
section
variable {key k i : Nat} {M : Nat → Nat} {E0 E : Nat → EndV}
theorem half_start (I : PInv key M E0) (hk : k < 2) : Half key M k E0 (upd E0 k { E0 k with owe := false }) 0 := by
  have hg : ∀ j, (upd E0 k { E0 k with owe := false } j).got = (E0 j).got := upd_got rfl
  have hne : 1 - k ≠ k := by omega
  refine ⟨fun j hj => ?_, fun j hj => ?_, upd_at _ _ _, fun h => absurd h (Nat.lt_irrefl 0), fun _ => by rw [upd_ne _ _ hne], fun _ => ?_, fun _ h => absurd h (Nat.lt_irrefl 0), fun _ => by rw [upd_ne _ _ hne]; exact ⟨rfl, rfl⟩, by rw [upd_ne _ _ hne]; exact Nat.le_refl _⟩
  · rw [hg]
    by_cases e : j = k
    · subst e; rw [upd_at]; exact (I.ends j hj).out
    · rw [upd_ne _ _ e]; exact I.ends j hj
  · by_cases e : j = k
    · subst e; rw [upd_at]; exact I.nohd j hj
    · rw [upd_ne _ _ e]; exact I.nohd j hj
  · rw [upd_ne _ _ hne]
    have := (I.ends k hk).ack
    omega
theorem outF_msgs (h : outN (E0 k) ≠ 0) : outF (E0 k) = outTo (E0 k) (outN (E0 k)) := by
  unfold outF
  rw [if_neg (fun h2 => h h2.1)]
theorem outF_ack (h : outN (E0 k) = 0) : outF (E0 k) = if (E0 k).owe = true then [sealL (E0 k).key (pktB 0 ((E0 k).got : Int) [])] else [] := by
  unfold outF
  by_cases ho : (E0 k).owe = true
  · rw [if_pos ⟨h, ho⟩, if_pos ho]
  · rw [if_neg (fun h2 => ho h2.2), if_neg ho, h]
    rfl
theorem half_put (H : Half key M k E0 E i) (hk : k < 2) {E' : EndV} (hE : EndI key E' (msgs (M (1 - k))) (msgs (M k)) (E k).got) (hN : NoHeld E') (hg : (E (1 - k)).got ≤ E'.got) :
    (∀ j, j < 2 → EndI key (upd E (1 - k) E' j) (msgs (M j)) (msgs (M (1 - j))) (upd E (1 - k) E' (1 - j)).got) ∧ (∀ j, j < 2 → NoHeld (upd E (1 - k) E' j)) := by
  refine ⟨fun j hj => ?_, fun j hj => ?_⟩
  · by_cases e : j = 1 - k
    · subst e
      rw [upd_at, upd_ne _ _ (by omega), show 1 - (1 - k) = k by omega]
      exact hE
    · have ej : j = k := by omega
      subst ej
      rw [upd_ne _ _ e, upd_at]
      refine (H.ends j hj).ogUp hg ?_
      have := hE.got
      exact this
  · by_cases e : j = 1 - k
    · subst e; rw [upd_at]; exact hN
    · rw [upd_ne _ _ e]; exact H.nohd j hj
theorem half_step (H : Half key M k E0 E i) (I : PInv key M E0) (hk : k < 2) (hM : ∀ j, j < 2 → M j ≤ 31) (hi : i < (outF (E0 k)).length) :
    ∃ x E', inF (E (1 - k)) ((outF (E0 k))[i]?.getD []) = (x, 0, E') ∧ Half key M k E0 (upd E (1 - k) E') (i + 1) ∧ EndI key E' (msgs (M (1 - k))) (msgs (M k)) (E k).got ∧ E'.got = (E (1 - k)).got + x.length ∧ (∀ j, j < x.length → x[j]?.getD [] = [byt ((E (1 - k)).got + j)]) := by
  have Eo := H.ends (1 - k) (by omega)
  rw [show 1 - (1 - k) = k by omega] at Eo
  have IK := I.ends k hk
  have hM1 := hM k hk
  have hM2 := hM (1 - k) (by omega)
  have hgk : (E k).got = (E0 k).got := by rw [H.me]
  have hw := IK.waitLen
  rw [msgs_len] at hw
  have l1 := Eo.ack
  have l2 := Eo.og
  have l3 := Eo.got
  rw [msgs_len] at l2 l3
  by_cases hn : outN (E0 k) = 0
  · have hF := outF_ack (k := k) (E0 := E0) hn
    rw [hF] at hi ⊢
    by_cases ho : (E0 k).owe = true
    · rw [if_pos ho] at hi ⊢
      obtain rfl : i = 0 := by simp at hi; omega
      obtain ⟨E', hE, ha, hg, how, hh⟩ := in_zero Eo (a := (E0 k).got) (by omega) (by rw [msgs_len]; omega) (by rw [msgs_len]; omega)
      have hp : PkOk key (msgs (M k)) (E k).got (sealL key (pktB ((0 : Nat) : Int) ((E0 k).got : Int) [])) := ⟨0, (E0 k).got, [], rfl, by simp, by omega, fun _ => rfl, fun h => absurd h (Nat.lt_irrefl 0)⟩
      obtain ⟨x2, E2, hF2, hI2, hg2, -⟩ := Eo.in_ hp (by rw [msgs_len]; omega) (by rw [msgs_len]; omega)
      rw [hE] at hF2
      injection hF2 with e1 e2
      injection e2 with _ e2
      subst e2
      have hNH : NoHeld E' := fun s => by rw [hh]; exact H.nohd (1 - k) (by omega) s
      obtain ⟨p1, p2⟩ := half_put H hk hI2 hNH (by omega)
      refine ⟨[], E', by rw [IK.key]; exact hE, ⟨p1, p2, by rw [upd_ne _ _ (by omega)]; exact H.me, fun _ => by rw [upd_at]; exact ha, fun h => absurd h (by omega), fun h => absurd hn h, fun h => absurd hn h, fun _ => ?_, ?_⟩, hI2, by rw [hg]; rfl, fun j hj => absurd hj (Nat.not_lt_zero j)⟩
      · rw [upd_at, how, hg]
        exact H.same (.inl rfl)
      · rw [upd_at, hg]; exact H.up
    · rw [if_neg ho] at hi
      exact absurd hi (Nat.not_lt_zero i)
  · rw [outF_msgs (k := k) (E0 := E0) hn] at hi ⊢
    rw [outTo_length] at hi
    have hiw : i < (E0 k).wait.length := by unfold outN at hi; omega
    have hb : (E0 k).wait[i]?.getD [] = [byt ((E0 k).ack + i)] := by
      rw [IK.wait, List.getElem?_drop, msgs_get (by omega), Option.getD_some]
    have hp0 : (outTo (E0 k) (outN (E0 k)))[i]?.getD [] = sealL key (pktB (((E0 k).ack + i + 1 : Nat) : Int) ((E0 k).got : Int) [byt ((E0 k).ack + i)]) := by
      unfold outTo
      rw [List.getElem?_map, List.getElem?_range hi, Option.map_some, Option.getD_some, hb, IK.key]
      rfl
    rw [hp0]
    have hgot := H.got hn
    obtain ⟨x, E', hE, ha, how, hNH, hc⟩ := in_next Eo (H.nohd (1 - k) (by omega)) (s := (E0 k).ack + i + 1) (a := (E0 k).got) (b := [byt ((E0 k).ack + i)]) (by omega) (by rw [msgs_len]; omega) (by rw [msgs_len]; omega) (by omega) (by omega) (by omega) (by simp)
    have hp : PkOk key (msgs (M k)) (E k).got (sealL key (pktB (((E0 k).ack + i + 1 : Nat) : Int) ((E0 k).got : Int) [byt ((E0 k).ack + i)])) := ⟨(E0 k).ack + i + 1, (E0 k).got, _, rfl, by simp, by omega, fun h => absurd h (by omega), fun _ => by rw [Nat.add_sub_cancel]; exact msgs_get (by omega)⟩
    obtain ⟨x2, E2, hF2, hI2, hg2, -⟩ := Eo.in_ hp (by rw [msgs_len]; omega) (by rw [msgs_len]; omega)
    rw [hE] at hF2
    injection hF2 with e1 e2
    injection e2 with _ e2
    subst e2
    have hgE : (E (1 - k)).got ≤ E'.got := by rcases hc with ⟨_, _, h⟩ | ⟨_, _, h⟩ <;> omega
    obtain ⟨p1, p2⟩ := half_put H hk hI2 hNH hgE
    refine ⟨x, E', hE, ⟨p1, p2, by rw [upd_ne _ _ (by omega)]; exact H.me, fun _ => by rw [upd_at]; exact ha, fun h => absurd h (by omega), fun _ => ?_, fun _ _ => by rw [upd_at]; exact how, fun h => ?_, ?_⟩, hI2, ?_, ?_⟩
    · rw [upd_at]
      rcases hc with ⟨h1, _, h⟩ | ⟨h1, _, h⟩ <;> omega
    · rcases h with h | h
      · omega
      · exact absurd h hn
    · rw [upd_at]
      have := H.up
      omega
    · rcases hc with ⟨_, h1, h⟩ | ⟨_, h1, h⟩ <;> rw [h, h1] <;> rfl
    · rcases hc with ⟨_, h1, h⟩ | ⟨h0, h1, h⟩
      · rw [h1]; exact fun j hj => absurd hj (Nat.not_lt_zero j)
      · rw [h1]
        intro j hj
        obtain rfl : j = 0 := by simp at hj; omega
        show [byt ((E0 k).ack + i)] = [byt ((E (1 - k)).got + 0)]
        rw [show (E0 k).ack + i = (E (1 - k)).got + 0 by omega]
theorem half_end (H : Half key M k E0 E (outF (E0 k)).length) (I : PInv key M E0) (hk : k < 2) :
    PInv key M E ∧ (E (1 - k)).ack = (E k).got ∧ min (M k) ((E0 k).ack + 1) ≤ (E (1 - k)).got ∧ (E0 (1 - k)).got ≤ (E (1 - k)).got ∧ (E k).ack = (E0 k).ack ∧ (E k).got = (E0 k).got := by
  have IK := I.ends k hk
  have hw := IK.waitLen
  rw [msgs_len] at hw
  have hw0 := IK.win0
  have e1 : (E k).ack = (E0 k).ack := by rw [H.me]
  have e2 : (E k).got = (E0 k).got := by rw [H.me]
  have hA : (E (1 - k)).ack = (E k).got := by
    rcases Nat.eq_zero_or_pos (outF (E0 k)).length with h | h
    · rw [H.ack0 h, e2]
      rcases I.owes k hk with ho | ho
      · by_cases hn : outN (E0 k) = 0
        · rw [outF_ack hn, if_pos ho] at h
          exact absurd h (by simp)
        · rw [outF_msgs hn, outTo_length] at h
          exact absurd h hn
      · exact ho
    · rw [H.ack h, e2]
  have hS : outN (E0 k) = 0 → (E0 k).ack = M k := fun hn => by unfold outN at hn; omega
  refine ⟨⟨H.ends, H.nohd, fun j hj => ?_⟩, hA, ?_, H.up, e1, e2⟩
  · by_cases e : j = k
    · subst e; exact .inr hA
    · have ej : j = 1 - k := by omega
      subst ej
      rw [show 1 - (1 - k) = k by omega]
      by_cases hn : outN (E0 k) = 0
      · obtain ⟨h1, h2⟩ := H.same (.inr hn)
        rw [h1, h2, e1]
        have := I.owes (1 - k) hj
        rw [show 1 - (1 - k) = k by omega] at this
        exact this
      · have hl : 0 < (outF (E0 k)).length := by rw [outF_msgs hn, outTo_length]; omega
        exact .inl (H.owe hn hl)
  · by_cases hn : outN (E0 k) = 0
    · have h1 := (H.ends k hk).ack
      have := hS hn
      omega
    · have h1 := H.got hn
      rw [outF_msgs hn, outTo_length] at h1
      omega
end
/-- how far the two are in round r, ahead of half k -/
structure Rnd (M : Nat → Nat) (r k : Nat) (E : Nat → EndV) : Prop where
  a0 : k ≤ 1 → min (M 0) r ≤ (E 0).ack
  b0 : k ≤ 1 → min (M 1) r ≤ (E 0).got
  c0 : k = 0 → r = 0 ∨ min (M 1) (r - 1) ≤ (E 1).ack
  a1 : k = 1 → min (M 0) (r + 1) ≤ (E 1).got ∧ (E 1).ack = (E 0).got
  a2 : k = 2 → min (M 0) (r + 1) ≤ (E 0).ack ∧ min (M 1) (r + 1) ≤ (E 0).got ∧ min (M 1) r ≤ (E 1).ack
theorem rnd_half {key r k : Nat} {M : Nat → Nat} {E0 E : Nat → EndV} (R : Rnd M r k E0) (I : PInv key M E0) (hk : k < 2) (H : Half key M k E0 E (outF (E0 k)).length) : Rnd M r (k + 1) E := by
  obtain ⟨-, h1, h2, h3, h4, h5⟩ := half_end H I hk
  match k, hk with
  | 0, _ =>
    have ra := R.a0 (by omega)
    have rb := R.b0 (by omega)
    simp only [Nat.sub_zero] at h1 h2 h3
    exact ⟨fun _ => by rw [h4]; exact ra, fun _ => by rw [h5]; exact rb, fun h => absurd h (by omega), fun _ => ⟨by omega, h1⟩, fun h => absurd h (by omega)⟩
  | 1, _ =>
    obtain ⟨r1, r2⟩ := R.a1 rfl
    have ra := R.a0 (by omega)
    have rb := R.b0 (by omega)
    simp only [Nat.sub_self] at h1 h2 h3
    exact ⟨fun h => absurd h (by omega), fun h => absurd h (by omega), fun h => absurd h (by omega), fun h => absurd h (by omega), fun _ => ⟨by omega, by omega, by omega⟩⟩
theorem rnd_next {r : Nat} {M : Nat → Nat} {E : Nat → EndV} (R : Rnd M r 2 E) : Rnd M (r + 1) 0 E := by
  obtain ⟨h1, h2, h3⟩ := R.a2 rfl
  exact ⟨fun _ => h1, fun _ => h2, fun _ => .inr h3, fun h => absurd h (by omega), fun h => absurd h (by omega)⟩
theorem rnd_done {key : Nat} {M : Nat → Nat} {E : Nat → EndV} (R : Rnd M (max (M 0) (M 1) + 1) 0 E) (I : PInv key M E) : (E 0).got = M 1 ∧ (E 1).got = M 0 ∧ (E 0).wait.length = 0 ∧ (E 1).wait.length = 0 := by
  have h1 := R.a0 (by omega)
  have h2 := R.b0 (by omega)
  have h3 := R.c0 rfl
  have I0 := I.ends 0 (by omega)
  have I1 := I.ends 1 (by omega)
  have w0 := I0.waitLen
  have w1 := I1.waitLen
  have a0 := I0.ack
  have a1 := I1.ack
  have g0 := I0.got
  have g1 := I1.got
  simp only [Nat.sub_zero, Nat.sub_self, msgs_len] at *
  omega
end Go.Proofs.Ytbekkndkdfmijaa
