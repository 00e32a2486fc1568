/- The reference's End in memory; its Send (12). Condition: the message is short and the end not full. -/
import Derived.Test.YtbekkndkdfmijaaMf
set_option linter.unusedSimpArgs false
set_option linter.unusedVariables false
namespace Go.Proofs.Ytbekkndkdfmijaa
open Go.RowKit Go

/-- the cells of the held messages: a number and the bytes' slice each -/
def heldCells : List Int → List Value → List Value
  | s :: ss, u :: us => .int .i64 s :: u :: heldCells ss us
  | _, _ => []
/-- the reference's cells -/
abbrev refV (E : EndV) (vS vH : Value) : Array Value := #[.int .i64 (E.win : Int), .int .u64 (E.key : Int), vS, .int .i64 (E.ack : Int), .int .i64 (E.got : Int), vH, .bool E.owe, .int .i64 (E.forg : Int)]
/-- block g is the reference's end E: S are the messages sent, ss the numbers of those held, bs their bytes; the rows lie from block B on -/
structure RefAt (w : World) (B g : Nat) (vS vH : Value) (S : List (List UInt8)) (ss : List Int) (bs : List (List UInt8)) (E : EndV) : Prop where
  blk : Blk w g 31 (refV E vS vH)
  sent : ∃ vs, w.ownsRow B 33 1 vS S.length vs ∧ Rws w vs S
  held : ∃ us, w.ownsRow B 78 2 vH ss.length (heldCells ss us) ∧ Rws w us bs ∧ us.length = ss.length
  wait : E.wait = S.drop E.ack
  ack : E.ack ≤ S.length
  nodup : ss.Nodup
  look : ∀ k, E.held k = ((ss.zip bs).find? fun p => p.1 == k).map (·.2)
set_option maxRecDepth 100000 in
set_option maxHeartbeats 4000000 in
theorem rSend_any {w : World} {B g : Nat} {vS vH : Value} {S : List (List UInt8)} {ss : List Int} {bs : List (List UInt8)} {E : EndV} {A : Option Addr} {n c : Nat} {l : List UInt8} (H : RefAt w B g vS vH S ss bs E) (hl : Sl w (.slice A n c) l) (hn : n ≤ 65536) (hw : E.wait.length < 1000) (hS : S.length ≤ 100000) (hB : B ≤ w.heap.size) :
    Calls Try.prog 12 #[.pointer (some ⟨g, 0, none⟩), .slice A n c] w fun e W' => ∃ vS', e = .returned (.int .i64 0) ∧ RefAt W' B g vS' vH (S ++ [l]) ss bs { E with wait := E.wait ++ [l] } ∧ (vS'.ownBlock = vS.ownBlock ∨ ∃ i, vS'.ownBlock = some i ∧ w.heap.size ≤ i) ∧ Fr (g :: vS.ownBlock.toList) w W' := by
  obtain ⟨k, ⟨vs, ho, hr⟩, ⟨us, ho2, hr2, hu2⟩, h1, h2, h3, h4⟩ := H
  obtain ⟨A0, d, rfl, hd, -, -⟩ := own_slice ho
  have hwl : E.wait.length = S.length - E.ack := by rw [h1, List.length_drop]
  have c2 : w.cell? ⟨g, 2, none⟩ = some (.slice A0 S.length d) := k.at_ rfl
  have c3 : w.cell? ⟨g, 3, none⟩ = some (.int .i64 (E.ack : Int)) := k.at_ rfl
  have hws : IntKind.i64.wrap ((S.length : Int) - (E.ack : Int)) = (S.length : Int) - (E.ack : Int) := by rw [IntKind.wrap_i64]; omega
  have n1 : decide ((65536 : Int) < (n : Int)) = false := decide_eq_false (by omega)
  have n3 : ¬ (1000 : Int) ≤ (S.length : Int) - (E.ack : Int) := by omega
  have n2 : decide ((1000 : Int) ≤ (S.length : Int) - (E.ack : Int)) = false := decide_eq_false (by omega)
  go_enter Try.func12, Try.ntmps12
  go_wp2_with fail
  go_quiet (fail)
  have ok9 : Ok w (w.drewN nq) := Ok.drewN (Ok.refl w) nq
  have hne2 : ∀ i, (Value.slice A0 S.length d).ownBlock = some i → vH.ownBlock ≠ some i := fun i e e2 => by
    rcases ho.2 with ⟨hv, -⟩ | ⟨g', cap, cur, hv, -, hh, -⟩
    · rw [hv] at e; cases e
    · rw [hv] at e
      injection e with e
      subst e
      exact own_ne_blk ho2 hh (by decide) e2.symm
  have hng := own_ne_blk ho k (by decide)
  have hng2 := own_ne_blk ho2 k (by decide)
  have HO2 := Lib.hid ho2
  have HR2 := Lib.hid hr2
  have HR := Lib.hid hr
  have HSL := Lib.hid hl
  have HREST := Lib.hid (And.intro h1 (And.intro h2 (And.intro h3 (And.intro h4 hu2))))
  have HNE := Lib.hid (And.intro hne2 (And.intro hng hng2))
  have k9 := k.ok ok9
  have ho9 := own_ok ho ok9
  have OK9 := Lib.hid ok9
  generalize w.drewN nq = w9 at *
  clear ho2 hr2 hr hl h1 h2 h3 h4 hu2 hne2 hng hng2 c2 c3
  have d2 : w9.cell? ⟨g, 2, none⟩ = some (.slice A0 S.length d) := k9.at_ rfl
  have ka := k9.alloc (.cells #[.slice A n c] 33)
  have hoa := ho9.alloc (.cells #[.slice A n c] 33)
  have hne := own_ne_blk hoa ka (by decide)
  have hsz : B ≤ w9.heap.size := Nat.le_trans hB (Below.size ok9)
  obtain ⟨i0, hi, hz0, hz1, hz2⟩ := info_parts info33
  have h1v : ∀ u ∈ [Value.slice A n c], u.oneCell' = true := by
    intro u hu
    simp at hu
    subst hu
    rfl
  go_wp2_with (at_builtin; refine wpList_append_own_at _ rfl _ _ 28 rfl B 33 i0 (.slice none 0 0) 1 24 Try.underlying28 hi hz0 hz1 hz2 rfl (by decide) _ _ _ rfl hoa ⟨w9.heap.size, 0, none⟩ 1 1 [.slice A n c] rfl rfl (cell_one_new _ _ _) h1v (by unfold maxLen; omega) (by omega) (by simp; omega) ?_; intro v' w3 ho3 hg3 hnil hat; obtain ⟨A', c', rfl, -, -, -⟩ := own_slice ho3; have k3 := ka.grown hg3 hne; have t3 : w3.cell? ⟨g, 2, none⟩ = some (.slice A0 S.length d) := k3.at_ rfl; have f3 := k3.frozen 2)
  have hg4 : (w9.alloc (.cells #[.slice A n c] 33)).grownBy w3 (Value.slice A0 S.length d).ownBlock := hg3
  have hat4 : (Value.slice A' (S.length + 1) c').ownBlock = (Value.slice A0 S.length d).ownBlock ∨ (Value.slice A' (S.length + 1) c').ownBlock = some (w9.alloc (.cells #[.slice A n c] 33)).heap.size := hat
  clear hg3 hat
  go_ret
  have F9 : Fr (g :: (Value.slice A0 S.length d).ownBlock.toList) w (w9.alloc (.cells #[.slice A n c] 33)) := (Fr.of_below OK9.out _).alloc _
  have F3 := F9.grown hg4 (fun i e => .inl (by simp [e]))
  have FZ := F3.setCell (p := ⟨g, 2, none⟩) (.inl (by simp)) (.slice A' (S.length + 1) c')
  have u1 : U8 w w3 := ((U8.bel OK9.out).trans (U8.alloc w9 _)).trans (U8.grown hg4 (own_not_u8 hoa (by decide)))
  have u2 : U8 w (w3.setCell ⟨g, 2, none⟩ (.slice A' (S.length + 1) c')) := u1.trans (U8.set k3 (by decide) 2 _)
  have hne3 := own_ne_blk ho3 k3 (by decide)
  refine ⟨_, rfl, ⟨k3.set_ 2 _, ⟨_, by simpa using own_fr ho3 ((Fr.refl [g] w3).setCell (p := ⟨g, 2, none⟩) (.inl (by simp)) _) (fun i e hm => hne3 (by simp at hm; rw [e, hm])), (HR.out.u8 u2).snoc (HSL.out.u8 u2)⟩, ⟨us, own_fr HO2.out FZ (fun i e hm => ?_), HR2.out.u8 u2, HREST.out.2.2.2.2⟩, ?_, ?_, HREST.out.2.2.1, HREST.out.2.2.2.1⟩, ?_, FZ⟩
  · simp at hm
    rcases hm with hm | hm
    · exact HNE.out.2.2 (by rw [e, hm])
    · exact HNE.out.1 i hm e
  · show E.wait ++ [l] = (S ++ [l]).drop E.ack
    rw [List.drop_append_of_le_length HREST.out.2.1, ← HREST.out.1]
  · have := HREST.out.2.1
    show E.ack ≤ (S ++ [l]).length
    simp
    omega
  · rcases hat4 with h | h
    · exact .inl h
    · exact .inr ⟨_, h, by have := Below.size OK9.out; simp; omega⟩
end Go.Proofs.Ytbekkndkdfmijaa
