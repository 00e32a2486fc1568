/- The walk of WireOrder: the law returns true. Conditions: both integers have 64 bits. -/
import Derived.Test.YtbofbihpmhkppaaXd
import Derived.Deep.DeepCutAuto
import Derived.Deep.RegionWith
namespace Go.Proofs.Ytbofbihpmhkppaa
open Go.RowKit
set_option linter.unusedVariables false

/-- the encoding, as a string -/
def encS (n : Int) : ByteArray := ⟨(encInt n).toArray⟩
theorem encS_list (n : Int) : (encS n).toList = encInt n := by rw [ByteArray.toList_eq]; rfl
theorem encS_size (n : Int) : (encS n).size = (encInt n).length := rfl
theorem ord1 {m n : Int} (hm : I64 m) (hn : I64 n) : (decide (m < n) == Op.bytesLess (encS m).toList (encS n).toList) = true := by
  rw [encS_list, encS_list, enc_order hm hn]; simp
theorem ord2 {m n : Int} (hm : I64 m) (hn : I64 n) : ((m == n) == ((encS m).toList == (encS n).toList)) = true := by
  rw [encS_list, encS_list]
  by_cases h : m = n
  · subst h; simp
  · have h2 : ¬ encInt m = encInt n := fun e => h (enc_prefix hm hn (by rw [e, List.take_length]))
    rw [beq_eq_false_iff_ne.2 h, beq_eq_false_iff_ne.2 h2]; rfl
theorem cut_list (s : ByteArray) (k : Nat) : (s.extract 0 k).toList = s.toList.take k := by
  rw [ByteArray.toList_eq, ByteArray.toList_eq, ByteArray.data_extract, Array.toList_extract]; simp
theorem ord3 {m n : Int} (hm : I64 m) (hn : I64 n) : (((encS m).extract 0 (encS n).size).toList == (encS n).toList) = (m == n) := by
  rw [cut_list, encS_list, encS_list, encS_size]
  by_cases h : m = n
  · subst h; simp
  · have h2 : ¬ (encInt m).take (encInt n).length = encInt n := fun e => h (enc_prefix hn hm e.symm).symm
    rw [beq_eq_false_iff_ne.2 h, beq_eq_false_iff_ne.2 h2]
theorem ord4 {m n : Int} (hm : I64 m) (hn : I64 n) : ((encS m).toList == ((encS n).extract 0 (encS m).size).toList) = (m == n) := by
  rw [cut_list, encS_list, encS_list, encS_size]
  by_cases h : m = n
  · subst h; simp
  · have h2 : ¬ encInt m = (encInt n).take (encInt m).length := fun e => h (enc_prefix hm hn e)
    rw [beq_eq_false_iff_ne.2 h, beq_eq_false_iff_ne.2 h2]
theorem conv_row {w : World} {B : Nat} {g : Nat} {c : Nat} {E : List UInt8} (h : Reads w B 1 (some ⟨g, 0, none⟩) E.length (bytesV E)) : (convert 46 9 (.slice (some ⟨g, 0, none⟩) E.length c)).run Try.prog w = .ok (.string ⟨E.toArray⟩) w := by
  have h0 := conv_bytes h 0 E.length c (by omega)
  rw [List.drop_zero, List.take_length] at h0
  exact h0
theorem intS_any (n : Int) (w : World) (hn : I64 n) :
    Calls Try.prog 27 #[.int .i64 n] w fun e W' => ∃ g c L, e = .returned (.slice (some ⟨g, 0, none⟩) L c) ∧ (∀ W, Below W'.heap.size W' W → (convert 46 9 (.slice (some ⟨g, 0, none⟩) L c)).run Try.prog W = .ok (.string (encS n)) W) ∧ Below w.heap.size w W' := by
  refine (wInt_any n w hn.1 hn.2).mono ?_
  rintro e w1 ⟨v, rfl, hown, hb⟩
  obtain ⟨g, c, rfl, -, hr⟩ := made_row1 hown (by rw [encInt_length]; omega)
  exact ⟨g, c, _, rfl, fun W hW => conv_row (hr.below hW), hb⟩

set_option maxRecDepth 100000 in
set_option maxHeartbeats 2000000 in
theorem wireOrder_any (m n : Int) (w : World) (hm : I64 m) (hn : I64 n) :
    Calls Try.prog 8 #[.int .i64 m, .int .i64 n] w fun e W' => e = .returned (.bool true) ∧ Below w.heap.size w W' := by
  go_enter Try.func8, Try.ntmps8
  go_upto_region 1 with fail
  go_cut [5, 6] (fun s5 s6 wx => s5 = .string (encS m) ∧ s6 = .string (encS n) ∧ Below w.heap.size w wx)
  case first =>
    go_region_with (first
      | (go_at_call_of 27 (Value.int IntKind.i64 m); refine (intS_any m _ hm).mono ?_; rintro e w1 ⟨g1, c1, L1, rfl, hA, hb1⟩; have hA1 := hA _ (Below.refl _ _))
      | (go_at_call_of 27 (Value.int IntKind.i64 n); refine (intS_any n _ hn).mono ?_; rintro e w2 ⟨g2, c2, L2, rfl, hB, hb2⟩; have hB1 := hB _ (Below.refl _ _); have hA2 := hA _ hb2))
    all_goals
      have b2 : Below w.heap.size w w2 := below_step ((Below.refl _ w).drew.trans hb1) (Nat.le_refl _) hb2
      go_wp2_with fail
      go_meet
      exact ⟨rfl, rfl, b2⟩
  case rest =>
    obtain ⟨rfl, rfl, hb⟩ := hcut
    have f1 := ord1 hm hn
    have f2 := ord2 hm hn
    have f3 := Lib.hid (ord3 hm hn)
    have f4 := Lib.hid (ord4 hm hn)
    have hT : True := trivial
    by_cases hlt : ((encS n).size : Int) < ((encS m).size : Int)
    · have hle : ((encS n).size : Int) ≤ ((encS m).size : Int) := by omega
      go_wp2_with fail
      go_region_held3 (fun _ => True) (first | exact hT) (first | (go_at_call 25; refine (sanity_any _).mono ?_; rintro e w2 ⟨rfl, hb2⟩))
      have b2 : Below w.heap.size w w2 := below_step hb.drew (Nat.le_refl _) hb2
      go_wp2_with fail
      go_ret
      refine ⟨?_, b2⟩
      rw [f3.out]
      exact ret_bool (a := ((m == n) == (m == n))) (by simp)
    · have hle : ((encS m).size : Int) ≤ ((encS n).size : Int) := by omega
      go_wp2_with fail
      go_region_held3 (fun _ => True) (first | exact hT) (first | (go_at_call 25; refine (sanity_any _).mono ?_; rintro e w2 ⟨rfl, hb2⟩))
      have b2 : Below w.heap.size w w2 := below_step hb.drew (Nat.le_refl _) hb2
      go_wp2_with fail
      go_ret
      refine ⟨?_, b2⟩
      rw [f4.out]
      exact ret_bool (a := ((m == n) == (m == n))) (by simp)
end Go.Proofs.Ytbofbihpmhkppaa
