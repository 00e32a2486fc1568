/- The reference's End carried on. No condition. -/
import Derived.Test.YtbekkndkdfmijaaMi
set_option linter.unusedSimpArgs false
set_option linter.unusedVariables false
namespace Go.Proofs.Ytbekkndkdfmijaa
open Go.RowKit Go

section
variable {w w' : World} {B g : Nat} {vS vH : Value} {S : List (List UInt8)} {ss : List Int} {bs : List (List UInt8)} {E : EndV}
theorem RefAt.fr {T : List Nat} (H : RefAt w B g vS vH S ss bs E) (k : Fr T w w') (hg : g ∉ T) (hS : ∀ i, vS.ownBlock = some i → i ∉ T) (hH : ∀ i, vH.ownBlock = some i → i ∉ T) (u : U8 w w') : RefAt w' B g vS vH S ss bs E := by
  obtain ⟨vs, h1, h2⟩ := H.sent
  obtain ⟨us, h3, h4, h5⟩ := H.held
  exact ⟨H.blk.fr k hg, ⟨vs, own_fr h1 k hS, h2.u8 u⟩, ⟨us, own_fr h3 k hH, h4.u8 u, h5⟩, H.wait, H.ack, H.nodup, H.look⟩
theorem RefAt.ok (H : RefAt w B g vS vH S ss bs E) (k : Below w.heap.size w w') : RefAt w' B g vS vH S ss bs E :=
  H.fr (Fr.of_below k []) (by simp) (fun i _ => by simp) (fun i _ => by simp) (U8.bel k)
theorem RefAt.set6 (H : RefAt w B g vS vH S ss bs E) (b : Bool) : RefAt (w.setCell ⟨g, 6, none⟩ (.bool b)) B g vS vH S ss bs { E with owe := b } := by
  obtain ⟨vs, h1, h2⟩ := H.sent
  obtain ⟨us, h3, h4, h5⟩ := H.held
  have u := U8.set H.blk (by decide) 6 (.bool b)
  have f := (Fr.refl [g] w).setCell (p := ⟨g, 6, none⟩) (.inl (by simp)) (.bool b)
  have n1 := own_ne_blk h1 H.blk (by decide)
  have n2 := own_ne_blk h3 H.blk (by decide)
  exact ⟨H.blk.set_ 6 (.bool b), ⟨vs, own_fr h1 f (fun i e hm => by simp at hm; exact n1 (by rw [e, hm])), h2.u8 u⟩, ⟨us, own_fr h3 f (fun i e hm => by simp at hm; exact n2 (by rw [e, hm])), h4.u8 u, h5⟩, H.wait, H.ack, H.nodup, H.look⟩
theorem RefAt.set7 (H : RefAt w B g vS vH S ss bs E) (n : Nat) : RefAt (w.setCell ⟨g, 7, none⟩ (.int .i64 (n : Int))) B g vS vH S ss bs { E with forg := n } := by
  obtain ⟨vs, h1, h2⟩ := H.sent
  obtain ⟨us, h3, h4, h5⟩ := H.held
  have u := U8.set H.blk (by decide) 7 (.int .i64 (n : Int))
  have f := (Fr.refl [g] w).setCell (p := ⟨g, 7, none⟩) (.inl (by simp)) (.int .i64 (n : Int))
  have n1 := own_ne_blk h1 H.blk (by decide)
  have n2 := own_ne_blk h3 H.blk (by decide)
  exact ⟨H.blk.set_ 7 (.int .i64 (n : Int)), ⟨vs, own_fr h1 f (fun i e hm => by simp at hm; exact n1 (by rw [e, hm])), h2.u8 u⟩, ⟨us, own_fr h3 f (fun i e hm => by simp at hm; exact n2 (by rw [e, hm])), h4.u8 u, h5⟩, H.wait, H.ack, H.nodup, H.look⟩
theorem RefAt.setAck (H : RefAt w B g vS vH S ss bs E) (a : Nat) (ha : a ≤ S.length) : RefAt (w.setCell ⟨g, 3, none⟩ (.int .i64 (a : Int))) B g vS vH S ss bs { E with ack := a, wait := S.drop a } := by
  obtain ⟨vs, h1, h2⟩ := H.sent
  obtain ⟨us, h3, h4, h5⟩ := H.held
  have u := U8.set H.blk (by decide) 3 (.int .i64 (a : Int))
  have f := (Fr.refl [g] w).setCell (p := ⟨g, 3, none⟩) (.inl (by simp)) (.int .i64 (a : Int))
  have n1 := own_ne_blk h1 H.blk (by decide)
  have n2 := own_ne_blk h3 H.blk (by decide)
  exact ⟨H.blk.set_ 3 (.int .i64 (a : Int)), ⟨vs, own_fr h1 f (fun i e hm => by simp at hm; exact n1 (by rw [e, hm])), h2.u8 u⟩, ⟨us, own_fr h3 f (fun i e hm => by simp at hm; exact n2 (by rw [e, hm])), h4.u8 u, h5⟩, rfl, ha, H.nodup, H.look⟩
end
end Go.Proofs.Ytbekkndkdfmijaa
