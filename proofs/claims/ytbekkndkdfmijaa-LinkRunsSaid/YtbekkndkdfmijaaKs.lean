/- The plain law of order: two ends to which packets of the other one alone are delivered. Nothing of the program stands here. -/
import Derived.Test.YtbekkndkdfmijaaKr
set_option linter.unusedSimpArgs false
set_option linter.unusedVariables false
namespace Go.Proofs.Ytbekkndkdfmijaa
open Go.RowKit Go

/-- a packet of an end that has sent these messages and has got that many -/
def PkOk (key : Nat) (own : List (List UInt8)) (got : Nat) (p : List UInt8) : Prop :=
  ∃ (s a : Nat) (b : List UInt8), p = sealL key (pktB (s : Int) (a : Int) b) ∧ b.length ≤ 100 ∧ a ≤ got ∧ (s = 0 → b = []) ∧ (0 < s → own[s - 1]? = some b)
/-- an end: own are the messages it was given, other the ones that the other end was given, og how many the other one has delivered -/
structure EndI (key : Nat) (E : EndV) (own other : List (List UInt8)) (og : Nat) : Prop where
  key : E.key = key
  win0 : 1 ≤ E.win
  win : E.win ≤ 16
  forg : E.forg = 0
  wait : E.wait = own.drop E.ack
  ack : E.ack ≤ og
  og : og ≤ own.length
  got : E.got ≤ other.length
  held : ∀ s b, E.held s = some b → (E.got : Int) < s ∧ s ≤ (E.got : Int) + 16 ∧ other[(s - 1).toNat]? = some b
section
variable {key og : Nat} {E : EndV} {own other : List (List UInt8)} {p : List UInt8}
theorem PkOk.ownUp (h : PkOk key own og p) (m : List (List UInt8)) : PkOk key (own ++ m) og p := by
  obtain ⟨s, a, b, e, h1, h2, h3, h4⟩ := h
  exact ⟨s, a, b, e, h1, h2, h3, fun hs => by
    have := h4 hs
    rw [List.getElem?_append_left (List.getElem?_eq_some_iff.1 this).1]
    exact this⟩
theorem PkOk.got {og' : Nat} (h : PkOk key own og p) (hg : og ≤ og') : PkOk key own og' p := by
  obtain ⟨s, a, b, e, h1, h2, h3, h4⟩ := h
  exact ⟨s, a, b, e, h1, by omega, h3, h4⟩
theorem EndI.waitLen (I : EndI key E own other og) : E.ack + E.wait.length = own.length := by
  rw [I.wait, List.length_drop]
  have := I.ack
  have := I.og
  omega
theorem EndI.send (I : EndI key E own other og) (b : List UInt8) : EndI key { E with wait := E.wait ++ [b] } (own ++ [b]) other og :=
  ⟨I.key, I.win0, I.win, I.forg, by show E.wait ++ [b] = (own ++ [b]).drop E.ack; rw [List.drop_append_of_le_length (by have := I.ack; have := I.og; omega), ← I.wait], I.ack, by have := I.og; simp; omega, I.got, I.held⟩
theorem EndI.otherUp (I : EndI key E own other og) (b : List UInt8) : EndI key E own (other ++ [b]) og :=
  ⟨I.key, I.win0, I.win, I.forg, I.wait, I.ack, I.og, by have := I.got; simp; omega, fun s c h => by
    obtain ⟨h1, h2, h3⟩ := I.held s c h
    exact ⟨h1, h2, by rw [List.getElem?_append_left (List.getElem?_eq_some_iff.1 h3).1]; exact h3⟩⟩
theorem EndI.ogUp {og' : Nat} (I : EndI key E own other og) (h : og ≤ og') (h2 : og' ≤ own.length) : EndI key E own other og' :=
  ⟨I.key, I.win0, I.win, I.forg, I.wait, by have := I.ack; omega, h2, I.got, I.held⟩
theorem EndI.out (I : EndI key E own other og) : EndI key { E with owe := false } own other og :=
  ⟨I.key, I.win0, I.win, I.forg, I.wait, I.ack, I.og, I.got, I.held⟩
theorem EndI.packets (I : EndI key E own other og) (hm : ∀ m ∈ own, m.length ≤ 100) : ∀ p ∈ outF E, PkOk key own E.got p := by
  intro p hp
  unfold outF at hp
  split at hp
  · simp at hp
    exact ⟨0, E.got, [], by rw [hp, I.key]; rfl, by simp, Nat.le_refl _, fun _ => rfl, fun h => by omega⟩
  · unfold outTo at hp
    rw [List.mem_map] at hp
    obtain ⟨j, hj, rfl⟩ := hp
    rw [List.mem_range] at hj
    have hjw : j < E.wait.length := by unfold outN at hj; omega
    have hw := I.waitLen
    have e : own[E.ack + j]? = some (E.wait[j]?.getD []) := by
      rw [List.getElem?_eq_getElem hjw, Option.getD_some, ← List.getElem?_eq_getElem hjw, I.wait, List.getElem?_drop]
    refine ⟨E.ack + j + 1, E.got, E.wait[j]?.getD [], by rw [I.key]; rfl, hm _ (List.mem_of_getElem? e), Nat.le_refl _, fun h => by omega, fun _ => by rw [show E.ack + j + 1 - 1 = E.ack + j by omega]; exact e⟩
theorem outF_len (hw : E.win ≤ 16) : (outF E).length ≤ 16 := by
  unfold outF
  split
  · simp
  · rw [outTo_length]; unfold outN; omega
theorem runD_of {f : Int → Option (List UInt8)} {other : List (List UInt8)} (hf : ∀ s b, f s = some b → other[(s - 1).toNat]? = some b) : ∀ k d, d ≤ other.length → d + (runD f k d).length ≤ other.length ∧ ∀ i, i < (runD f k d).length → (runD f k d)[i]? = other[d + i]?
  | 0, d, hd => ⟨by show d + 0 ≤ _; omega, fun i hi => absurd hi (Nat.not_lt_zero i)⟩
  | k + 1, d, hd => by
    cases h : f ((d : Int) + 1) with
    | none => rw [runD_none h (by omega)]; exact ⟨by show d + 0 ≤ _; omega, fun i hi => absurd hi (Nat.not_lt_zero i)⟩
    | some b =>
      rw [runD_some h (by omega)]
      have h1 := hf _ _ h
      rw [show ((d : Int) + 1 - 1).toNat = d by omega] at h1
      have h2 := (List.getElem?_eq_some_iff.1 h1).1
      obtain ⟨i1, i2⟩ := runD_of hf k (d + 1) (by omega)
      rw [Nat.add_sub_cancel]
      refine ⟨by simp only [List.length_cons]; omega, fun i hi => ?_⟩
      cases i with
      | zero => simp [h1]
      | succ i =>
        simp only [List.length_cons] at hi
        rw [List.getElem?_cons_succ, i2 i (by omega)]
        congr 1
        omega
set_option maxRecDepth 100000 in
/-- what In does with a packet of the other end -/
theorem EndI.in_ (I : EndI key E own other og) (hog : PkOk key other og p) (hl : other.length ≤ 1000000) (hl2 : own.length ≤ 1000000) :
    ∃ x E', inF E p = (x, 0, E') ∧ EndI key E' own other og ∧ E'.got = E.got + x.length ∧ ∀ i, i < x.length → x[i]? = other[E.got + i]? := by
  obtain ⟨s, a, b, rfl, hb, ha, h0, h1⟩ := hog
  have hs : s ≤ 1000000 := by
    rcases Nat.eq_zero_or_pos s with h | h
    · omega
    · have := (List.getElem?_eq_some_iff.1 (h1 h)).1
      omega
  have hr : readP (pktB (s : Int) (a : Int) b) = some ((s : Int), (a : Int), b) := read_pkt _ _ b (by unfold I64; omega) (by have := I.og; unfold I64; omega) (by
    have h2 : 0 < (s : Int) ∨ b.length = 0 := by
      rcases Nat.eq_zero_or_pos s with h | h
      · exact .inr (by rw [h0 h]; rfl)
      · exact .inl (by omega)
    have h3 : (decide (0 < (s : Int)) || decide (b.length = 0)) = true := by simpa using h2
    unfold pktOk
    rw [h3, decide_eq_true (by omega : (0 : Int) ≤ (s : Int)), decide_eq_true (by omega : (0 : Int) ≤ (a : Int)), decide_eq_true (by omega : b.length ≤ 65536)]
    rfl)
  have hF : inF E (sealL key (pktB (s : Int) (a : Int) b)) = ((inP E s a b).1, 0, (inP E s a b).2) := by
    unfold inF
    rw [I.key, open_seal]
    dsimp only
    rw [hr]
  have hw := I.waitLen
  have hog := I.og
  have hA : EndI key (inAck E a) own other og := by
    unfold inAck
    split
    · refine ⟨I.key, I.win0, I.win, I.forg, ?_, ?_, I.og, I.got, I.held⟩
      · show E.wait.drop _ = own.drop (a : Int).toNat
        have := I.ack
        rw [I.wait, List.drop_drop]
        congr 1
        omega
      · show (a : Int).toNat ≤ og
        omega
    · exact I
  refine ⟨_, _, hF, ?_⟩
  unfold inP
  by_cases hc : (E.ack : Int) + (E.wait.length : Int) < (a : Int) ∨ (E.got : Int) + 16 < (s : Int)
  · rw [if_pos hc]
    exact ⟨I, rfl, fun i hi => absurd hi (Nat.not_lt_zero i)⟩
  rw [if_neg hc]
  by_cases hs0 : (s : Int) = 0
  · rw [if_pos hs0]
    exact ⟨hA, inAck_got _ _, fun i hi => absurd hi (Nat.not_lt_zero i)⟩
  rw [if_neg hs0]
  have hO : EndI key { inAck E (a : Int) with owe := true } own other og := ⟨hA.key, hA.win0, hA.win, hA.forg, hA.wait, hA.ack, hA.og, hA.got, hA.held⟩
  have gO : ({ inAck E (a : Int) with owe := true } : EndV).got = E.got := inAck_got _ _
  generalize ({ inAck E (a : Int) with owe := true } : EndV) = F at *
  have hP : EndI key (inPut F s b) own other og ∧ (inPut F s b).got = F.got := by
    unfold inPut
    split
    · rename_i hlt
      refine ⟨⟨hO.key, hO.win0, hO.win, hO.forg, hO.wait, hO.ack, hO.og, hO.got, fun k c hk => ?_⟩, rfl⟩
      dsimp only at hk ⊢
      split at hk
      · rename_i e
        injection hk with hk
        subst hk
        have h2 := h1 (by omega)
        rw [e, gO, show ((s : Int) - 1).toNat = s - 1 by omega]
        exact ⟨by have := hlt.1; rw [gO] at this; exact this, by omega, h2⟩
      · exact hO.held k c hk
    · exact ⟨hO, rfl⟩
  obtain ⟨hP, gP⟩ := hP
  generalize inPut F s b = D at *
  have hrun := runD_of (f := D.held) (other := other) (fun k c hk => (hP.held k c hk).2.2) 17 D.got hP.got
  have gD : D.got = E.got := by omega
  refine ⟨⟨hP.key, hP.win0, hP.win, hP.forg, hP.wait, hP.ack, hP.og, hrun.1, fun k c hk => ?_⟩, ?_, fun i hi => ?_⟩
  · have hk' : cutH D.held D.got (runD D.held 17 D.got).length k = some c := hk
    have h3 := hP.held k c (cutH_some hk')
    show ((D.got + (runD D.held 17 D.got).length : Nat) : Int) < k ∧ k ≤ ((D.got + (runD D.held 17 D.got).length : Nat) : Int) + 16 ∧ _
    refine ⟨?_, by omega, h3.2.2⟩
    unfold cutH at hk'
    split at hk'
    · cases hk'
    · omega
  · show D.got + (runD D.held 17 D.got).length = E.got + (runD D.held 17 D.got).length
    omega
  · show (runD D.held 17 D.got)[i]? = _
    rw [hrun.2 i hi, gD]
end
end Go.Proofs.Ytbekkndkdfmijaa
