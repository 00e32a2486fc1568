/- The plain law of an end to which any bytes are delivered. Nothing of the program stands here. -/
import Derived.Test.YtbekkndkdfmijaaMl
set_option linter.unusedSimpArgs false
set_option linter.unusedVariables false
namespace Go.Proofs.Ytbekkndkdfmijaa
open Go.RowKit Go

/-- an end after i calls: S are the messages that it was given -/
structure EndR (key : Nat) (E : EndV) (S : List (List UInt8)) (i : Nat) : Prop where
  key : E.key = key
  win0 : 1 ≤ E.win
  win : E.win ≤ 16
  wait : E.wait = S.drop E.ack
  ack : E.ack ≤ S.length
  slen : S.length ≤ i
  msgs : ∀ m ∈ S, m.length ≤ 100
  got : E.got ≤ 17 * i
  forg : E.forg ≤ i
  held : ∀ s b, E.held s = some b → (E.got : Int) + 1 < s ∧ s ≤ (E.got : Int) + 16 ∧ b.length ≤ 65536
section
variable {key i : Nat} {E : EndV} {S : List (List UInt8)}
theorem EndR.waitLen (I : EndR key E S i) : E.ack + E.wait.length = S.length := by
  have := I.ack
  rw [I.wait, List.length_drop]
  omega
theorem EndR.up {j : Nat} (I : EndR key E S i) (h : i ≤ j) : EndR key E S j :=
  ⟨I.key, I.win0, I.win, I.wait, I.ack, Nat.le_trans I.slen h, I.msgs, by have := I.got; omega, Nat.le_trans I.forg h, I.held⟩
theorem EndR.send (I : EndR key E S i) {b : List UInt8} (hb : b.length ≤ 100) : EndR key { E with wait := E.wait ++ [b] } (S ++ [b]) (i + 1) := by
  have ha := I.ack
  have hs := I.slen
  refine ⟨I.key, I.win0, I.win, ?_, ?_, ?_, fun m hm => ?_, ?_, ?_, I.held⟩
  · show E.wait ++ [b] = (S ++ [b]).drop E.ack
    rw [List.drop_append_of_le_length ha, ← I.wait]
  · show E.ack ≤ (S ++ [b]).length
    simp; omega
  · simp; omega
  · rcases List.mem_append.1 hm with hm | hm
    · exact I.msgs m hm
    · simp at hm; rw [hm]; exact hb
  · have := I.got
    show E.got ≤ _
    omega
  · have := I.forg
    show E.forg ≤ _
    omega
theorem EndR.out (I : EndR key E S i) : EndR key { E with owe := false } S (i + 1) := by
  have := I.slen
  have := I.got
  have := I.forg
  exact ⟨I.key, I.win0, I.win, I.wait, I.ack, by omega, I.msgs, by show E.got ≤ _; omega, by show E.forg ≤ _; omega, I.held⟩
theorem encInts_pos (s a : Int) : 3 ≤ (encInts [s, a]).length := by
  show 3 ≤ (encInt ((2 : Nat) : Int) ++ (encInt s ++ (encInt a ++ []))).length
  simp only [List.length_append, encInt_length]
  omega
theorem pktB_ge (s a : Int) (b : List UInt8) : 4 ≤ (pktB s a b).length := by
  have h1 := encInts_pos s a
  have h2 := encBytes_pos b
  unfold pktB
  rw [List.length_append]
  omega
theorem EndR.packets (I : EndR key E S i) (hi : i ≤ 1000) : ∀ p ∈ outF E, 12 ≤ p.length ∧ p.length ≤ 1000 := by
  intro p hp
  have hg := I.got
  have ha := I.ack
  have hs := I.slen
  unfold outF at hp
  split at hp
  · simp at hp
    have h1 := pktB_ge 0 (E.got : Int) []
    have h2 := pktB_le 0 (E.got : Int) [] (by unfold I64; omega) (by unfold I64; omega) (by simp)
    rw [hp, sealL_length]
    simp at h2
    omega
  · unfold outTo at hp
    rw [List.mem_map] at hp
    obtain ⟨j, hj, rfl⟩ := hp
    rw [List.mem_range] at hj
    have hjw : j < E.wait.length := by unfold outN at hj; omega
    have hwl := I.waitLen
    have hm : (E.wait[j]?.getD []).length ≤ 100 := by
      rw [List.getElem?_eq_getElem hjw, Option.getD_some]
      refine I.msgs _ ?_
      have := List.getElem_mem hjw
      generalize E.wait[j] = m at this
      rw [I.wait] at this
      exact List.mem_of_mem_drop this
    have h1 := pktB_ge ((E.ack : Int) + (j : Int) + 1) (E.got : Int) (E.wait[j]?.getD [])
    have h2 := pktB_le ((E.ack : Int) + (j : Int) + 1) (E.got : Int) (E.wait[j]?.getD []) (by unfold I64; omega) (by unfold I64; omega) (by omega)
    rw [sealL_length]
    omega
theorem read_b {l b : List UInt8} {s a : Int} (h : readP l = some (s, a, b)) : b.length ≤ 65536 := by
  unfold readP at h
  cases hD : decL decI l with
  | error e => rw [hD] at h; cases h
  | ok p =>
    obtain ⟨xs, n⟩ := p
    rw [hD] at h
    dsimp only at h
    split at h
    · rename_i s' a'
      cases hB : decB (l.drop n) with
      | error e => rw [hB] at h; cases h
      | ok q =>
        obtain ⟨bb, m⟩ := q
        rw [hB] at h
        dsimp only at h
        split at h
        · rename_i hc
          injection h with h
          injection h with h1 h2
          injection h2 with h2 h3
          subst h1 h2 h3
          have := hc.2
          unfold pktOk at this
          simp only [Bool.and_eq_true, decide_eq_true_eq] at this
          exact this.1.2
        · cases h
    · cases h
/-- an acknowledgement -/
theorem EndR.ackd (I : EndR key E S i) {a : Int} (ha : a ≤ (E.ack : Int) + (E.wait.length : Int)) : EndR key (inAck E a) S i := by
  have hw := I.waitLen
  unfold inAck
  split
  · rename_i h
    refine ⟨I.key, I.win0, I.win, ?_, ?_, I.slen, I.msgs, I.got, I.forg, I.held⟩
    · show E.wait.drop (a - (E.ack : Int)).toNat = S.drop a.toNat
      rw [I.wait, List.drop_drop]
      congr 1
      omega
    · show a.toNat ≤ S.length
      omega
  · exact I
theorem inAck_forg (E : EndV) (a : Int) : (inAck E a).forg = E.forg := by unfold inAck; split <;> rfl
/-- what In leaves, whatever came -/
theorem EndR.in_ (I : EndR key E S i) (l : List UInt8) : EndR key (inF E l).2.2 S (i + 1) ∧ (∀ m ∈ (inF E l).1, m.length ≤ 65536) ∧ (inF E l).1.length ≤ 17 := by
  have I1 := I.up (Nat.le_succ i)
  unfold inF
  cases hO : openL E.key l with
  | error e =>
    dsimp only
    refine ⟨?_, by simp, by simp⟩
    split
    · refine ⟨I1.key, I1.win0, I1.win, I1.wait, I1.ack, I1.slen, I1.msgs, I1.got, ?_, I1.held⟩
      have := I.forg
      show E.forg + 1 ≤ i + 1
      omega
    · exact I1
  | ok core =>
    dsimp only
    cases hR : readP core with
    | none => exact ⟨I1, by simp, by simp⟩
    | some p =>
      obtain ⟨s, a, b⟩ := p
      dsimp only
      have hb := read_b hR
      unfold inP
      split
      · exact ⟨I1, by simp, by simp⟩
      · rename_i hn
        have hA : EndR key (inAck E a) S (i + 1) := I1.ackd (by omega)
        split
        · exact ⟨hA, by simp, by simp⟩
        · rename_i hs0
          obtain ⟨F, hF⟩ : ∃ F, F = inPut { inAck E a with owe := true } s b := ⟨_, rfl⟩
          have hFg : F.got = E.got := by rw [hF]; unfold inPut; split <;> exact inAck_got E a
          have hFh : ∀ t c, F.held t = some c → (E.got : Int) < t ∧ t ≤ (E.got : Int) + 16 ∧ c.length ≤ 65536 := by
            intro t c ht
            rw [hF] at ht
            unfold inPut at ht
            have old : (inAck E a).held t = some c → (E.got : Int) < t ∧ t ≤ (E.got : Int) + 16 ∧ c.length ≤ 65536 := fun h => by
              rw [inAck_held] at h
              obtain ⟨h1, h2, h3⟩ := I.held t c h
              omega
            split at ht
            · rename_i hp
              have hg : ((inAck E a).got : Int) < s := hp.1
              rw [inAck_got] at hg
              dsimp only at ht
              split at ht
              · rename_i e
                injection ht with ht
                subst ht
                omega
              · exact old ht
            · exact old ht
          have hFr : F.key = key ∧ 1 ≤ F.win ∧ F.win ≤ 16 ∧ F.wait = S.drop F.ack ∧ F.ack ≤ S.length ∧ F.forg ≤ i + 1 := by
            rw [hF]
            unfold inPut
            split <;> exact ⟨hA.key, hA.win0, hA.win, hA.wait, hA.ack, hA.forg⟩
          rw [← hF]
          obtain ⟨r1, r2, r3, r4, r5, r6⟩ := hFr
          have hsh : (runD F.held 17 F.got).length ≤ 16 := runD_short fun k c h => by rw [hFg]; exact (hFh k c h).2.1
          have hnx := runD_next (f := F.held) 17 F.got (by omega)
          unfold inRun
          refine ⟨⟨r1, r2, r3, r4, r5, I1.slen, I.msgs, ?_, r6, fun t c ht => ?_⟩, fun m hm => ?_, by show (runD F.held 17 F.got).length ≤ 17; omega⟩
          · have := I.got
            show F.got + (runD F.held 17 F.got).length ≤ _
            omega
          · have ht2 : cutH F.held F.got (runD F.held 17 F.got).length t = some c := ht
            unfold cutH at ht2
            split at ht2
            · cases ht2
            · rename_i hc
              obtain ⟨h1, h2, h3⟩ := hFh t c ht2
              have h4 : t ≠ ((F.got + (runD F.held 17 F.got).length : Nat) : Int) + 1 := fun e => by
                rw [e, hnx] at ht2
                cases ht2
              show ((F.got + (runD F.held 17 F.got).length : Nat) : Int) + 1 < t ∧ t ≤ ((F.got + (runD F.held 17 F.got).length : Nat) : Int) + 16 ∧ c.length ≤ 65536
              rw [hFg] at hc h4 ⊢
              omega
          · have hm2 : m ∈ runD F.held 17 F.got := hm
            obtain ⟨j, hj, e⟩ := List.getElem_of_mem hm2
            have h1 := runD_all 17 F.got j hj
            rw [List.getElem?_eq_getElem hj, e] at h1
            exact (hFh _ _ h1).2.2
end
end Go.Proofs.Ytbekkndkdfmijaa
