/- The statement WireTruncated: for every input the law returns true and its arguments read as before. Condition: No condition. -/
import Derived.Test.YtbofbihpmhkppaaXe
import Derived.Test.YtbofbihpmhkppaaEnd
import Derived.Test.YtbofbihpmhkppaaOpen
import Derived.SizedLaws
import Derived.JoinedCond
import Derived.Deep.CondSized
namespace Go.Proofs.Ytbofbihpmhkppaa.wireTruncated
open Go.ChangeShapes Go.WideShapes Go.ChangeAt Go.RowKit
open Go.ChangeMaps (open_string)
set_option linter.unusedVariables false

theorem contract (H : Type) (enc : TypeId × Value → H) (W : World) (base : Nat) (args : Array Value) (ds gs : List (DataW H)) (before : List MemPlace)
    (hval : ∀ (j : Nat) t v, Try.f12.params[j]? = some t → args[j]? = some v → Value.okWide Try.prog W .any base t v)
    (hW : DataW.Whole enc Try.prog Try.f12.params.toList Rows.wireTruncatedSpec.vars false W args.toList ds gs before)
    (hz : (DataW.weightsEach Try.prog (Try.f12.params.toList ++ Rows.wireTruncatedSpec.plain.varTypes Try.prog) (ds ++ gs)).all (· ≤ reachBytes) = true) :
    Calls Try.prog 12 args W fun e W' => ∃ v, e = .returned v ∧ Rows.wireTruncatedSpec.post enc Try.prog Try.f12 false true false false W args v W' := by
  have hW' := hW
  obtain ⟨p, q, hA0, hV, rfl, hfz, hnd⟩ := hW
  have hA : DataW.TrodAll enc Try.prog W 0 (fun _ => true) true Try.f12.params.toList args.toList ds p := hA0
  rw [Try.params12] at hA hval
  obtain ⟨v0, vs0, d0, ds0, p0, q0, hargs, rfl, rfl, h0, r0⟩ := trodAll_cons hA
  obtain ⟨v1, vs1, d1, ds1, p1, q1, rfl, rfl, rfl, h1, r1⟩ := trodAll_cons r0
  obtain ⟨v2, vs2, d2, ds2, p2, q2, rfl, rfl, rfl, h2, r2⟩ := trodAll_cons r1
  obtain ⟨v3, vs3, d3, ds3, p3, q3, rfl, rfl, rfl, h3, r3⟩ := trodAll_cons r2
  obtain ⟨v4, vs4, d4, ds4, p4, q4, rfl, rfl, rfl, h4, r4⟩ := trodAll_cons r3
  obtain ⟨rfl, rfl, rfl⟩ := trodAll_nil r4
  obtain rfl : args = #[v0, v1, v2, v3, v4] := by cases args; simp_all
  obtain ⟨rfl, rfl⟩ := trodVars_none hV
  obtain ⟨a0, rfl, rfl, rfl, w0⟩ := open_int Try.underlying3 (hval 0 3 v0 rfl rfl) h0
  have I0 : I64 a0 := bounds_i64 w0
  obtain ⟨a1, rfl, rfl, rfl, w1⟩ := open_string Try.underlying9 (hval 1 9 v1 rfl rfl) h1
  have w1 : a1.size ≤ 140737488351232 := by have := sized_string hz (j := 1) rfl rfl; rw [size_list] at this; exact this
  obtain ⟨A2, n2, c2, l2, rfl, nc2, m2, R2, I2, S2⟩ := reads_of_ints (hval 2 24 v2 rfl rfl) h2
  have m2 : n2 ≤ 140737488351232 := by have := S2.reach hz (j := 2) (b := 8) rfl rfl Try.underlying24 (by kernel_rfl); omega
  obtain ⟨A3, n3, c3, l3, rfl, nc3, m3, R3, Z3, S3, M3⟩ := reads_of_strs (hval 3 42 v3 rfl rfl) h3
  have m3 : n3 ≤ 140737488351232 := by have := S3.reach hz (j := 3) (b := 16) rfl rfl Try.underlying42 (by kernel_rfl); omega
  have Q3 : ∀ s ∈ l3, s.size ≤ 140737488351232 := fun s hs => by
    have := List.all_eq_true.1 hz _ (DataW.weights_mem_each (j := 3) rfl rfl _ (M3 s hs))
    exact of_decide_eq_true this
  obtain ⟨A4, n4, c4, l4, rfl, nc4, m4, R4, S4⟩ := reads_of_digs (hval 4 43 v4 rfl rfl) h4
  have m4 : n4 ≤ 140737488351232 := by have := S4.reach hz (j := 4) (b := 16) rfl rfl Try.underlying43 (by kernel_rfl); omega
  refine (wireTrunc_any a0 a1 A2 n2 c2 l2 A3 n3 c3 l3 A4 n4 c4 l4 W I0 w1 nc2 m2 R2 I2 nc3 m3 R3 Q3 nc4 m4 R4).mono fun e W' ⟨he, hg⟩ => ?_
  subst he
  exact ⟨_, rfl, law_post hW' rfl rfl rfl (by kernel_rfl) hg⟩

set_option maxRecDepth 100000 in
theorem lifted (os : Os) (started : os.Started) (H : Type) (enc : TypeId × Value → H) :
    ReturnsInHanded {} Try.checked os 12 .any (Rows.wireTruncatedSpec.pre6 enc Try.prog Try.f12 Rows.wireTruncatedRow.domain false) (Rows.wireTruncatedSpec.post enc Try.prog Try.f12 false true false false) := by
  refine returnsInHanded_of_change_sized (C := Try.checked) own_knob started (by kernel_rfl) Try.func12
    (ChangeSpec.witness6 (enc := enc) (C := Try.checked) false ⟨#[], #[.int .i64 0, .string ByteArray.empty, .slice none 0 0, .slice none 0 0, .slice none 0 0], []⟩ 8 (by kernel_rfl) (by kernel_rfl) (by kernel_rfl) (by kernel_rfl)) ?_
  intro W base args ds gs before hval hW hcnd hz _
  exact contract H enc W base args ds gs before hval hW hz

theorem over : Rows.wireTruncatedRow.holds Try.pinned (OpenSpec.ofChange Rows.wireTruncatedSpec) :=
  OpenClaim.holds_of_wide 12 Try.f12 rfl rfl rfl rfl rfl rfl rfl ⟨rfl, rfl, rfl, rfl, rfl⟩ rfl rfl rfl rfl rfl (by kernel_rfl) Try.func12 (by kernel_rfl)
    (of_decide_eq_true (by kernel_rfl)) (by unfold Func.isWrapper; first | (rw [if_pos (by decide +kernel)]; kernel_rfl) | (rw [if_neg (by decide +kernel)]; exact ⟨rfl, rfl⟩))
    (fun os started H enc _ => lifted os started H enc)

theorem proved : Rows.WireTruncatedSaid :=
  over
#print axioms proved
end Go.Proofs.Ytbofbihpmhkppaa.wireTruncated
