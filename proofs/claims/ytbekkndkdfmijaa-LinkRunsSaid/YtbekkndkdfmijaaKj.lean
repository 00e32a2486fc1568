/- slices.Delete from the beginning of a list of byte slices; deliver. Conditions: the lists are short. -/
import Derived.Test.YtbekkndkdfmijaaKi
import Derived.Deep.RegionLaw
import Derived.StillTailTactics
import Derived.BigQuiet
set_option linter.unusedSimpArgs false
set_option linter.unusedVariables false
namespace Go.Proofs.Ytbekkndkdfmijaa
open Go.RowKit

theorem setCells_row (b : Nat) (t : TypeId) : ∀ (vs : List Value) (o : Nat) (w : World) (cur : Array Value), w.heap[b]? = some (.cells cur t (0, 0)) → o + vs.length ≤ cur.size →
    ∃ cur', (w.setCells b o vs).heap[b]? = some (.cells cur' t (0, 0)) ∧ cur'.size = cur.size ∧ (∀ j, j < o → cur'[j]? = cur[j]?) ∧ (∀ j, o + vs.length ≤ j → cur'[j]? = cur[j]?) ∧ (∀ j, j < vs.length → cur'[o + j]? = vs[j]?)
  | [], o, w, cur, h, _ => ⟨cur, h, rfl, fun _ _ => rfl, fun _ _ => rfl, fun j hj => by simp at hj⟩
  | v :: r, o, w, cur, h, hs => by
    rw [List.length_cons] at hs
    have h1 : (w.setCell ⟨b, o, none⟩ v).heap[b]? = some (.cells (cur.setIfInBounds o v) t (0, 0)) := Blk.set_ (g := b) (t := t) (cs := cur) h o v
    obtain ⟨cur', e1, e2, e3, e4, e5⟩ := setCells_row b t r (o + 1) (w.setCell ⟨b, o, none⟩ v) (cur.setIfInBounds o v) h1 (by simp; omega)
    refine ⟨cur', e1, by rw [e2]; simp, fun j hj => ?_, fun j hj => ?_, fun j hj => ?_⟩
    · rw [e3 j (by omega), Array.getElem?_setIfInBounds_ne (by omega)]
    · rw [List.length_cons] at hj
      rw [e4 j (by omega), Array.getElem?_setIfInBounds_ne (by omega)]
    · cases j with
      | zero =>
        rw [Nat.add_zero, e3 o (by omega), Array.getElem?_setIfInBounds_self_of_lt (by omega)]
        rfl
      | succ j =>
        rw [List.length_cons] at hj
        rw [show o + (j + 1) = o + 1 + j by omega, e5 j (by omega)]
        rfl
theorem setCells_fr (b : Nat) : ∀ (vs : List Value) (o : Nat) (w : World), Fr [b] w (w.setCells b o vs)
  | [], _, w => Fr.refl _ w
  | v :: r, o, w => ((Fr.refl [b] w).setCell (p := ⟨b, o, none⟩) (.inl (by simp)) v).trans (setCells_fr b r (o + 1) _)
set_option maxRecDepth 100000 in
set_option maxHeartbeats 8000000 in
theorem del_any (b m d k : Nat) (vs : List Value) (w : World) (h : w.ownsRow 0 33 1 (.slice (some ⟨b, 0, none⟩) m d) m vs) (h1 : ∀ u ∈ vs, u.oneCell' = true) (hk : 0 < k) (hkm : k ≤ m) (hm : m ≤ 1000000) :
    Calls Try.prog 37 #[.slice (some ⟨b, 0, none⟩) m d, .int .i64 0, .int .i64 (k : Int)] w fun e W' => e = .returned (.slice (some ⟨b, 0, none⟩) (m - k) d) ∧ W'.ownsRow 0 33 1 (.slice (some ⟨b, 0, none⟩) (m - k) d) (m - k) (vs.drop k) ∧ Fr [b] w W' := by
  obtain ⟨i0, hi, hz0, hz1, hz2⟩ := info_parts info33
  obtain ⟨hl, ho⟩ := h
  obtain ⟨g, cap, cur, hv, -, hh, hmc, hcm, hcs, htk⟩ := ho.resolve_left (fun e => by cases e.1)
  injection hv with e1 e2 e3
  injection e1 with e1
  injection e1 with e1
  subst e1 e3
  rw [Nat.mul_one] at hl hcs htk
  have hget : ∀ j, j < m → cur[j]? = vs[j]? := fun j hj => by
    rw [← htk, List.getElem?_take, if_pos hj, Array.getElem?_toList]
  obtain ⟨news, hnews⟩ : ∃ news, news = vs.drop k := ⟨_, rfl⟩
  have hlen : news.length = m - k := by rw [hnews, List.length_drop, hl]
  obtain ⟨A, hA, hsrc⟩ : ∃ A : Addr, (if d = k then some (⟨b, 0, none⟩ : Addr) else some ⟨b, k, none⟩) = some A ∧ Hid (∀ t u, news[t]? = some u → w.drew.cell? (A.add t) = some u) := by
    by_cases hd : d = k
    · refine ⟨⟨b, 0, none⟩, by simp [hd], fun t u hu => ?_⟩
      have h0 : news.length = 0 := by rw [hlen]; omega
      rw [List.length_eq_zero_iff.1 h0] at hu
      simp at hu
    · refine ⟨⟨b, k, none⟩, by simp [hd], fun t u hu => ?_⟩
      have ht : t < m - k := by
        have := (List.getElem?_eq_some_iff.1 hu).1
        rwa [hlen] at this
      rw [hnews, List.getElem?_drop, ← hget _ (by omega)] at hu
      rw [Addr.add_lit]
      exact (cell_of_row w.drew b (k + t) cur 33 (0, 0) hh).trans hu
  have s1 : Hid (news.length = (m - k) * 1) := by rw [Nat.mul_one]; exact hlen
  have s2 : Hid (∀ u ∈ news, u.oneCell' = true) := fun u hu => h1 u (by rw [hnews] at hu; exact List.mem_of_mem_drop hu)
  have hin : ∀ (W : World) (c : Array Value), W.heap[b]? = some (.cells c 33 (0, 0)) → ∀ j, j < c.size → (W.cell? ⟨b, j, none⟩).isSome = true ∧ W.frozen? ⟨b, j, none⟩ = false := fun W c hc j hj =>
    ⟨by rw [cell_of_row W b j c 33 (0, 0) hc, Array.getElem?_eq_getElem hj]; rfl, Blk.frozen (g := b) (t := 33) (cs := c) hc j⟩
  have s3 : Hid (∀ t, t < news.length → (w.drew.cell? ⟨b, 0 + 0 * 1 + t, none⟩).isSome = true ∧ w.drew.frozen? ⟨b, 0 + 0 * 1 + t, none⟩ = false) := by
    intro t ht
    rw [show 0 + 0 * 1 + t = t by omega]
    exact hin w.drew cur hh t (by omega)
  obtain ⟨cur1, c1, c2, c3, c4, c5⟩ := setCells_row b 33 news (0 + 0 * 1) w.drew cur hh (by omega)
  have f1 := ((Fr.refl [b] w).drew).trans (setCells_fr b news (0 + 0 * 1) w.drew)
  have hW : Hid (w.drew.setCells b (0 + 0 * 1) news = w.drew.setCells b (0 + 0 * 1) news) := rfl
  obtain ⟨W1, hW1⟩ : ∃ W1, W1 = w.drew.setCells b (0 + 0 * 1) news := ⟨_, rfl⟩
  rw [← hW1] at c1 f1
  have HW := Lib.hid hW1
  have hcl : ∀ ty, (Builtin.clear_ #[28] ty #[.slice (some ⟨b, m - k, none⟩) k (d - (m - k))]).run Try.prog W1 = .ok (.tuple #[]) (W1.setCells b (m - k) (List.replicate k (.slice none 0 0))) :=
    fun ty => Lib.run_clear_slice W1 28 33 ty (.slice none 0 0) Try.underlying28 zero33 rfl rfl b (m - k) k _ (by omega) (fun j hj => (hin W1 cur1 c1 (m - k + j) (by omega)).1) (fun j hj => (hin W1 cur1 c1 (m - k + j) (by omega)).2)
  obtain ⟨cur2, k1, k2, k3, -, -⟩ := setCells_row b 33 (List.replicate k (.slice none 0 0)) (m - k) W1 cur1 c1 (by rw [List.length_replicate]; omega)
  have f2 := f1.trans (setCells_fr b (List.replicate k (.slice none 0 0)) (m - k) W1)
  have hfin : (W1.setCells b (m - k) (List.replicate k (.slice none 0 0))).ownsRow 0 33 1 (.slice (some ⟨b, 0, none⟩) (m - k) d) (m - k) (vs.drop k) := by
    refine ⟨by rw [← hnews, hlen, Nat.mul_one], .inr ⟨b, d, cur2, rfl, Nat.zero_le _, k1, by omega, hcm, by omega, ?_⟩⟩
    rw [Nat.mul_one, ← hnews]
    apply List.ext_getElem?
    intro j
    rw [List.getElem?_take]
    by_cases hj : j < m - k
    · rw [if_pos hj, Array.getElem?_toList, k3 j hj]
      have := c5 j (by omega)
      rw [show 0 + 0 * 1 + j = j by omega] at this
      exact this
    · rw [if_neg hj, List.getElem?_eq_none (by omega)]
  have hcl : ∀ ty, (Builtin.clear_ #[28] ty #[.slice (some ⟨b, m - k, none⟩) (m - (m - k)) (d - (m - k))]).run Try.prog W1 = .ok (.tuple #[]) (W1.setCells b (m - k) (List.replicate k (.slice none 0 0))) := fun ty => by
    rw [show m - (m - k) = k by omega]
    exact hcl ty
  have HF := Lib.hid hfin
  have HF2 := Lib.hid f2
  have n1 : (0 : Int) ≤ (k : Int) := by omega
  have n2 : (k : Int) ≤ (m : Int) := by omega
  have n3 : (m : Int) ≤ (d : Int) := by omega
  have n4 : ((0 : Int) == (k : Int)) = false := by simp; omega
  have n5 : k ≤ m := hkm
  have n6 : ¬ (0 : Int) = (k : Int) := by omega
  clear hfin f2 f1 hin hget htk hl hcs hh h1 hW1 c1 c2 c3 c4 c5 k1 k2 k3 hnews hlen hW ho
  go_enter Try.func37, Try.ntmps37
  go_wp2_with fail
  go_region_law (refine step_append_room rfl (.tmp 22) (.tmp 25) 28 rfl 33 i0 1 Try.underlying28 hi hz1 b 0 0 d (by simp [Act.eval, Act.put]) A (m - k) (d - k) news (by simp [Act.eval, Act.put, hA]) s1.out hsrc.out s2.out (by omega) s3.out ?_; rw [← HW.out])
  go_wp2_with fail
  go_ret
  exact ⟨rfl, HF.out, HF2.out⟩

/-! ### deliver -/
/-- the held messages that are next: at most f -/
def runD (held : Int → Option (List UInt8)) : Nat → Nat → List (List UInt8)
  | 0, _ => []
  | f + 1, d => match held ((d : Int) + 1) with
    | none => []
    | some b => b :: runD held f (d + 1)
theorem runD_none {f : Int → Option (List UInt8)} {k d : Nat} (h : f ((d : Int) + 1) = none) (hk : 0 < k) : runD f k d = [] := by
  obtain ⟨j, rfl⟩ : ∃ j, k = j + 1 := ⟨k - 1, by omega⟩
  unfold runD
  rw [h]
theorem runD_some {f : Int → Option (List UInt8)} {k d : Nat} {b : List UInt8} (h : f ((d : Int) + 1) = some b) (hk : 0 < k) : runD f k d = b :: runD f (k - 1) (d + 1) := by
  obtain ⟨j, rfl⟩ : ∃ j, k = j + 1 := ⟨k - 1, by omega⟩
  conv => lhs; unfold runD
  rw [h]
  rfl
def cutH (f : Int → Option (List UInt8)) (d r : Nat) : Int → Option (List UInt8) := fun k => if (d : Int) < k ∧ k ≤ (d : Int) + r then none else f k
theorem cutH_zero (f : Int → Option (List UInt8)) (d : Nat) : cutH f d 0 = f := by
  funext k
  unfold cutH
  rw [if_neg (by omega)]
theorem cutH_at (f : Int → Option (List UInt8)) (d r : Nat) : cutH f d r (((d + r : Nat) : Int) + 1) = f (((d + r : Nat) : Int) + 1) := by
  unfold cutH
  rw [if_neg (by omega)]
theorem cutH_succ (f : Int → Option (List UInt8)) (d r : Nat) : (fun k => if k = ((d + r : Nat) : Int) + 1 then none else cutH f d r k) = cutH f d (r + 1) := by
  funext k
  unfold cutH
  by_cases h : k = ((d + r : Nat) : Int) + 1
  · rw [if_pos h, if_pos (by omega)]
  · rw [if_neg h]
    by_cases h2 : (d : Int) < k ∧ k ≤ (d : Int) + r
    · rw [if_pos h2, if_pos (by omega)]
    · rw [if_neg h2, if_neg (by omega)]
def lenV : Value → Nat
  | .slice _ n _ => n
  | _ => 0
theorem i64_wf {k : Int} (h : I64 k) : (Lit.int .i64 k).wf = true := by
  unfold I64 at h
  simp [Lit.wf, IntKind.min, IntKind.max, IntKind.signed, IntKind.bits]
  omega
theorem map_not_u8 {w : World} {kt : TypeId} {b n : Nat} {D : DataW Value} (h : w.ownsMap Try.prog kt hR b n D) : ∀ cs z, w.heap[b]? ≠ some (.cells cs 5 z) := by
  intro cs z e
  obtain ⟨es, clock, hb, -⟩ := h
  rw [hb] at e
  injection e with e
  cases e
/-- looking up a held message -/
theorem look_end {w : World} {h N : Nat} {D : DataW Value} {f : Int → Option (List UInt8)} (hM : w.ownsMap Try.prog 3 hR h N D) (hH : HeldAt w D f) {k : Int} (hk : I64 k) :
    ∃ A n c, (∀ j, (Instr.lookup 63 (.map (some h)) (.int .i64 k) true).run Try.prog (w.drewN j) = .ok (.tuple #[.slice A n c, .bool (f k).isSome]) (w.drewN j)) ∧ ∀ l, f k = some l → Sl w (.slice A n c) l := by
  have key : ∀ j, ∃ v, (Instr.lookup 63 (.map (some h)) (.int .i64 k) true).run Try.prog (w.drewN j) = .ok (.tuple #[v, .bool (Maps.has D (.int .i64 k))]) (w.drewN j) ∧ DataW.held v = D.atKey (.int .i64 k) (.held (.slice none 0 0)) := fun j => by
    obtain ⟨v, ps, h1, h2⟩ := World.ownsMap.look_ok (w := w.drewN j) hM intKey Try.underlying63 (zero33 _) (zd := .held (.slice none 0 0)) (zp := []) rfl (Maps.keyOf_int_mk Try.underlying3 (i64_wf hk))
    refine ⟨v, h1, ?_⟩
    unfold hR at h2
    injection h2 with h2
    injection h2 with h2
  cases hf : f k with
  | none =>
    have hn := (hH k).2 hf
    refine ⟨none, 0, 0, fun j => ?_, fun l hl => by cases hl⟩
    obtain ⟨v, h1, h2⟩ := key j
    rw [Maps.atKey_of_not_has hn] at h2
    injection h2 with h2
    subst h2
    rw [hn] at h1
    exact h1
  | some l =>
    obtain ⟨hh, u, hu, hs⟩ := (hH k).1 l hf
    obtain ⟨A, n, c, rfl, hc, hb⟩ := hs
    refine ⟨A, n, c, fun j => ?_, fun l' hl => by cases hl; exact ⟨A, n, c, rfl, hc, hb⟩⟩
    obtain ⟨v, h1, h2⟩ := key j
    rw [hu] at h2
    injection h2 with h2
    subst h2
    rw [hh] at h1
    exact h1
set_option maxRecDepth 100000 in
set_option maxHeartbeats 8000000 in
theorem deliver_any (g h N : Nat) (q : Option Nat) (E : EndV) (w : World) (H : EndAt w g q h N E) (hgot : E.got ≤ 1000000) (hkeys : ∀ k l, E.held k = some l → k ≤ (E.got : Int) + 16) :
    Calls Try.prog 38 #[.pointer (some ⟨g, 0, none⟩)] w fun e W' => ∃ v vs, e = .returned v ∧ W'.ownsRow w.heap.size 33 1 v vs.length vs ∧ Rws W' vs (runD E.held 17 E.got) ∧
      EndAt W' g q h N { E with got := E.got + (runD E.held 17 E.got).length, held := cutH E.held E.got (runD E.held 17 E.got).length } ∧ Fr [g, h] w W' := by
  obtain ⟨i0, hi, hz0, hz1, hz2⟩ := info_parts info33
  have hap := end_apart H
  have hlt := H.lt
  go_enter Try.func38, Try.ntmps38
  go_wp2_with fail
  go_loopw [3] (fun v wr => ∃ (L : List (List UInt8)) (vs : List Value), wr.ownsRow w.heap.size 33 1 v L.length vs ∧ Rws wr vs L ∧ Hid (runD E.held 17 E.got = L ++ runD E.held (17 - L.length) (E.got + L.length)) ∧ L.length ≤ 16 ∧
      EndAt wr g q h N { E with got := E.got + L.length, held := cutH E.held E.got L.length } ∧ Fr [g, h] w wr) (fun v _ => 17 - lenV v)
  case atStart => exact ⟨[], [], World.ownsRow_nil _ _ _ _, Rws.nil_ _, Lib.hid rfl, by simp, by simpa [cutH_zero] using H, Fr.refl _ _⟩
  case round =>
    clear H
    obtain ⟨L, vs, ho, hr, HR, hL, H, hf⟩ := hrel
    have hnu := H.not_u8
    obtain ⟨A, n, c, xs, D, k, hn, hro, hq, hrw, hM, hH⟩ := H
    have hkI : I64 (((E.got + L.length : Nat) : Int) + 1) := by unfold I64; omega
    obtain ⟨X, y, z, hlk, hsl⟩ := look_end hM hH hkI
    have hcut := cutH_at E.held E.got L.length
    dsimp only at hlk hsl
    rw [hcut] at hlk hsl
    have c4 : wr.cell? ⟨g, 4, none⟩ = some (.int .i64 ((E.got + L.length : Nat) : Int)) := k.at_ rfl
    have c5 : wr.cell? ⟨g, 5, none⟩ = some (.map (some h)) := k.at_ rfl
    obtain ⟨A3, c3, rfl, -, -, -⟩ := own_slice ho
    obtain ⟨G, hG⟩ : ∃ G : Nat, G = E.got + L.length := ⟨_, rfl⟩
    have hG1 : (G : Int) ≤ 2000000 := by omega
    rw [← hG] at hlk hsl c4 hkI
    have HG := Lib.hid hG
    clear hG
    have hw1 : IntKind.i64.wrap ((G : Int) + 1) = (G : Int) + 1 := by rw [IntKind.wrap_i64]; omega
    cases hfk : E.held ((G : Int) + 1) with
    | none =>
      rw [hfk] at hlk
      have hlk0 := hlk 0
      have hlk1 := hlk 1
      change Sem.run Try.prog (Instr.lookup 63 (.map (some h)) (.int .i64 ((G : Int) + 1)) true) wr = .ok (.tuple #[.slice X y z, .bool false]) wr at hlk0
      change Sem.run Try.prog (Instr.lookup 63 (.map (some h)) (.int .i64 ((G : Int) + 1)) true) wr.drew = .ok (.tuple #[.slice X y z, .bool false]) wr.drew at hlk1
      go_wp2_with fail
      go_region_held3 (fun W => W.cell? ⟨g, 5, none⟩ = some (.map (some h)) ∧ W.cell? ⟨g, 4, none⟩ = some (.int .i64 (G : Int)) ∧ Sem.run Try.prog (Instr.lookup 63 (.map (some h)) (.int .i64 ((G : Int) + 1)) true) W = .ok (.tuple #[.slice X y z, .bool false]) W)
        (first | exact ⟨c5, c4, hlk0⟩ | exact ⟨c5, c4, hlk1⟩)
        (first | fail)
      go_wp2_with fail
      go_ret
      have hL2 : runD E.held 17 E.got = L := by rw [HR.out, ← HG.out, runD_none hfk (by omega), List.append_nil]
      have hvl : vs.length = L.length := by have := ho.1; omega
      rw [hL2]
      refine ⟨_, vs, rfl, by rw [hvl]; exact ho, hr, ?_, hf.drew⟩
      exact EndAt.bel (w := wr) ⟨A, n, c, xs, D, k, hn, hro, hq, hrw, hM, hH⟩ (Below.refl _ _).drew
    | some b =>
      have hL16 : L.length < 16 := by have := hkeys _ _ hfk; have := HG.out; omega
      rw [hfk] at hlk
      have hsb := hsl b hfk
      have hlk0 := hlk 0
      have hlk1 := hlk 1
      change Sem.run Try.prog (Instr.lookup 63 (.map (some h)) (.int .i64 ((G : Int) + 1)) true) wr = .ok (.tuple #[.slice X y z, .bool true]) wr at hlk0
      change Sem.run Try.prog (Instr.lookup 63 (.map (some h)) (.int .i64 ((G : Int) + 1)) true) wr.drew = .ok (.tuple #[.slice X y z, .bool true]) wr.drew at hlk1
      have f4 := k.frozen 4
      go_wp2_with fail
      go_region_held3 (fun W => W.cell? ⟨g, 5, none⟩ = some (.map (some h)) ∧ W.cell? ⟨g, 4, none⟩ = some (.int .i64 (G : Int)) ∧ Sem.run Try.prog (Instr.lookup 63 (.map (some h)) (.int .i64 ((G : Int) + 1)) true) W = .ok (.tuple #[.slice X y z, .bool true]) W)
        (first | exact ⟨c5, c4, hlk0⟩ | exact ⟨c5, c4, hlk1⟩)
        (first | fail)
      clear hlk hlk0 hlk1 hsl
      have eG : ((E.got + (L ++ [b]).length : Nat) : Int) = (G : Int) + 1 := by rw [List.length_append]; have := HG.out; simp; omega
      have harr : (endV { E with got := E.got + L.length, held := cutH E.held E.got L.length } A n c h).setIfInBounds 4 (.int .i64 ((G : Int) + 1)) = endV { E with got := E.got + (L ++ [b]).length, held := cutH E.held E.got (L ++ [b]).length } A n c h := by
        show #[Value.int .i64 (E.win : Int), .int .u64 (E.key : Int), .slice A n c, .int .i64 (E.ack : Int), .int .i64 ((G : Int) + 1), .map (some h), .bool E.owe, .int .i64 (E.forg : Int)] = #[Value.int .i64 (E.win : Int), .int .u64 (E.key : Int), .slice A n c, .int .i64 (E.ack : Int), .int .i64 ((E.got + (L ++ [b]).length : Nat) : Int), .map (some h), .bool E.owe, .int .i64 (E.forg : Int)]
        rw [eG]
      have k2 := (k.set_ 4 (.int .i64 ((G : Int) + 1))).drew
      have u2 : U8 wr (wr.setCell ⟨g, 4, none⟩ (.int .i64 ((G : Int) + 1))).drew := U8.set k (by decide) 4 _
      have m2 := (hM.setCell (a := ⟨g, 4, none⟩) hap.1 (.int .i64 ((G : Int) + 1))).drew.drew
      have F2 : Fr [g] wr (wr.setCell ⟨g, 4, none⟩ (.int .i64 ((G : Int) + 1))).drew := ((Fr.refl [g] wr).setCell (p := ⟨g, 4, none⟩) (.inl (by simp)) _).drew
      have q5 : ((wr.setCell ⟨g, 4, none⟩ (.int .i64 ((G : Int) + 1))).drew).cell? ⟨g, 5, none⟩ = some (.map (some h)) := k2.at_ rfl
      have q4 : ((wr.setCell ⟨g, 4, none⟩ (.int .i64 ((G : Int) + 1))).drew).cell? ⟨g, 4, none⟩ = some (.int .i64 ((G : Int) + 1)) := k2.at_ rfl
      rw [harr] at k2
      have o2 := own_fr ho F2 (fun i e hm => by
        have h1 := (ho.lt i e).1
        have h2 := hlt g (by simp)
        simp at hm
        omega)
      go_wp2_with fail
      generalize (wr.setCell ⟨g, 4, none⟩ (.int .i64 ((G : Int) + 1))).drew = W2 at *
      go_still_tail 8, (by kernel_rfl)
      change wpList _ _ _ _ _ W2.drew
      have hkey : keyOf Try.prog 3 (.int .i64 ((G : Int) + 1)) = some (.int .i64 ((G : Int) + 1)) := Maps.keyOf_int_mk Try.underlying3 (i64_wf hkI)
      have o2d : W2.drew.ownsRow w.heap.size 33 1 (.slice A3 L.length c3) L.length vs := o2
      have k2d : Blk W2.drew g 65 _ := k2
      have h1v : ∀ u ∈ [Value.slice X y z], u.oneCell' = true := by
        intro u hu
        simp at hu
        subst hu
        rfl
      have hbs : w.heap.size ≤ W2.drew.heap.size := Nat.le_trans hf.size F2.size
      go_wp2_with (first
        | (at_delete; refine wpList_delete_own _ rfl _ _ 63 3 rfl 33 intKey Try.underlying63 hR h N D rfl m2 _ _ rfl hkey ?_; intro w4 m4 hturn; have hgr4 := hturn.grown; have k4 := k2d.grown hgr4 (by intro e; injection e with e; exact hap.1 e.symm); have o4 := o2d.kept hgr4 (.inr (by intro e; have h1 := (o2d.lt _ e).1; have h2 := hlt h (by simp); omega)); have z4 := hgr4.size)
        | (at_builtin; refine wpList_append_own_at _ rfl _ _ 28 rfl w.heap.size 33 i0 (.slice none 0 0) 1 24 Try.underlying28 hi hz0 hz1 hz2 rfl (by decide) _ _ _ rfl (o4.alloc _) ⟨w4.heap.size, 0, none⟩ 1 1 [.slice X y z] rfl rfl (cell_one_new _ _ _) h1v (by unfold maxLen; omega) (by omega) (by simp; omega) ?_; intro v6 w6 o6 hg6 hnil6 hat6; obtain ⟨A6, c6, rfl, -, -, -⟩ := own_slice o6))
      have hg7 : (w4.alloc (.cells #[.slice X y z] 33)).grownBy w6 (Value.slice A3 L.length c3).ownBlock := hg6
      have hlo : ∀ i, i ∈ (Value.slice A3 L.length c3).ownBlock.toList → w.heap.size ≤ i := fun i hi => (ho.lt i (Option.mem_toList.1 hi)).1
      have FB : Fr (Value.slice A3 L.length c3).ownBlock.toList w4 w6 := ((Fr.refl _ w4).alloc _).grown hg7 (fun i e => .inl (by rw [e]; simp))
      have F4d : Fr [h] W2.drew w4 := Fr.of_grown hgr4 (fun i e => by cases e; exact List.mem_singleton.2 rfl)
      have F4 : Fr [h] W2 w4 := ⟨F4d.os, F4d.tape, F4d.output, F4d.size, F4d.block⟩
      have u4 : U8 W2 w4 := U8.grown (w := W2.drew) hgr4 (fun i e => by cases e; exact map_not_u8 m2)
      have u6 : U8 w4 w6 := (U8.alloc w4 _).trans (U8.grown hg7 (own_not_u8 (o4.alloc _) (by decide)))
      have uA := u2.trans (u4.trans u6)
      have hgB : g ∉ (Value.slice A3 L.length c3).ownBlock.toList := fun hm => by have := hlo g hm; have := hlt g (by simp); omega
      have hhB : h ∉ (Value.slice A3 L.length c3).ownBlock.toList := fun hm => by have := hlo h hm; have := hlt h (by simp); omega
      have hro6 := own_fr (own_fr (own_fr hro F2 (fun i e hm => by rw [hq] at e; simp at hm; exact (hap.2 i e).1 hm)) F4 (fun i e hm => by rw [hq] at e; simp at hm; exact (hap.2 i e).2 hm)) FB (fun i e hm => by rw [hq] at e; have := hlo i hm; have := hlt i (by rw [e]; simp); omega)
      have hcs := cutH_succ E.held E.got L.length
      rw [← HG.out] at hcs
      have hL1 : (L ++ [b]).length = L.length + 1 := by simp
      have hH6 := (hH.u8 uA).del ((G : Int) + 1)
      rw [hcs, ← hL1] at hH6
      have hfin : Hid (runD E.held 17 E.got = (L ++ [b]) ++ runD E.held (17 - (L ++ [b]).length) (E.got + (L ++ [b]).length)) := Lib.hid (by
        rw [HR.out, ← HG.out, runD_some hfk (by omega), hL1, HG.out]
        simp [Nat.sub_sub, Nat.add_assoc])
      have o7 : w6.ownsRow w.heap.size 33 1 (.slice A6 (L.length + 1) c6) (L ++ [b]).length (vs ++ [.slice X y z]) := by rw [hL1]; exact o6
      refine ⟨⟨L ++ [b], vs ++ [.slice X y z], o7, (hr.u8 uA).snoc (hsb.u8 uA), hfin, by omega, ⟨A, n, c, xs, _, Blk.fr k4 FB hgB, hn, hro6, hq, hrw.u8 uA, map_fr m4 FB hhB, hH6⟩, ?_⟩, by simp [lenV]; omega⟩
      exact ((hf.next F2 (fun i hi => .inl (by simp at hi ⊢; exact .inl hi))).next F4 (fun i hi => .inl (by simp at hi ⊢; exact .inr hi))).next FB (fun i hi => .inr (hlo i hi))
end Go.Proofs.Ytbekkndkdfmijaa
