/- LinkProgress: the state of the walk and its steps. No condition. -/
import Derived.Test.YtbekkndkdfmijaaKv
set_option linter.unusedSimpArgs false
set_option linter.unusedVariables false
namespace Go.Proofs.Ytbekkndkdfmijaa
open Go.RowKit Go

/-- the two ends, the numbers of messages, and (once it is there) the numbers that were got -/
structure Pg (w : World) (col : Nat → Nat) (W : World) (eb : Nat) (g h : Nat → Nat) (mb : Nat) (gb : Option Nat) (N : Nat) (E : Nat → EndV) (M G : Nat → Nat) : Prop where
  sys : Sys w col W eb g h N E
  mblk : Blk W mb 3 #[.int .i64 (M 0 : Int), .int .i64 (M 1 : Int)]
  mcol : col mb = 2
  mlow : w.heap.size ≤ mb
  gblk : ∀ b, gb = some b → Blk W b 3 #[.int .i64 (G 0 : Int), .int .i64 (G 1 : Int)] ∧ col b = 3 ∧ w.heap.size ≤ b
section
variable {w W W' : World} {col : Nat → Nat} {eb mb N k : Nat} {gb : Option Nat} {g h M G : Nat → Nat} {E : Nat → EndV}
theorem Pg.ok (O : Pg w col W eb g h mb gb N E M G) (b : Below W.heap.size W W') : Pg w col W' eb g h mb gb N E M G :=
  ⟨O.sys.ok b, O.mblk.ok b, O.mcol, O.mlow, fun c hc => ⟨(O.gblk c hc).1.ok b, (O.gblk c hc).2⟩⟩
theorem Pg.mono {N' : Nat} (O : Pg w col W eb g h mb gb N E M G) (hN : N ≤ N') : Pg w col W eb g h mb gb N' E M G :=
  ⟨⟨O.sys.bel, O.sys.arr, O.sys.arrc, fun k hk => (O.sys.ends k hk).mono hN⟩, O.mblk, O.mcol, O.mlow, O.gblk⟩
theorem Pg.end_ {N' : Nat} {E' : EndV} (O : Pg w col W eb g h mb gb N E M G) (hk : k < 2) (H : EndOk w (recol col W.heap.size k) W' k (g k) (h k) N' E') (C : Chg w col k W W') (hN : N ≤ N') :
    Pg w (recol col W.heap.size k) W' eb g h mb gb N' (upd E k E') M G :=
  ⟨Sys.upTo (O.sys.step hk H C hN) (Nat.le_refl _), C.blk O.mblk (by rw [O.mcol]; omega), by rw [recol_old O.mblk.lt]; exact O.mcol, O.mlow, fun b hb => by
    obtain ⟨h1, h2, h3⟩ := O.gblk b hb
    exact ⟨C.blk h1 (by rw [h2]; omega), by rw [recol_old h1.lt]; exact h2, h3⟩⟩
theorem Pg.got {b : Nat} (O : Pg w col W eb g h mb (some b) N E M G) (hk : k < 2) (x : Nat) : Pg w (recol col W.heap.size 3) (W.setCell ⟨b, k, none⟩ (.int .i64 (x : Int))) eb g h mb (some b) N E M (upd G k x) := by
  obtain ⟨h1, h2, h3⟩ := O.gblk b rfl
  have C := chg_set (w := w) (col := col) h1 (by decide) h3 k (.int .i64 (x : Int))
  rw [h2] at C
  refine ⟨O.sys.other C (by omega) (by omega), C.blk O.mblk (by rw [O.mcol]; omega), by rw [recol_old O.mblk.lt]; exact O.mcol, O.mlow, fun c hc => ?_⟩
  injection hc with hc
  subst hc
  refine ⟨?_, by rw [recol_old h1.lt]; exact h2, h3⟩
  have h4 := blk2_set (f := fun j => Value.int .i64 (G j : Int)) h1 hk (.int .i64 (x : Int))
  rw [upd_int, upd_int] at h4
  exact h4
theorem Pg.new (O : Pg w col W eb g h mb none N E M G) : Pg w (recol col W.heap.size 3) (W.alloc (.cells #[.int .i64 0, .int .i64 0] 3)) eb g h mb (some W.heap.size) N E M (fun _ => 0) := by
  have b : Below W.heap.size W (W.alloc (.cells #[.int .i64 0, .int .i64 0] 3)) := (Below.refl _ W).alloc (Nat.le_refl _) _
  have C : Chg w col 3 W (W.alloc (.cells #[.int .i64 0, .int .i64 0] 3)) := Chg.of_ok b 3
  refine ⟨O.sys.other C (by omega) (by omega), O.mblk.ok b, by rw [recol_old O.mblk.lt]; exact O.mcol, O.mlow, fun c hc => ?_⟩
  injection hc with hc
  subst hc
  exact ⟨Blk.new _ _ _, recol_new (Nat.le_refl _), O.sys.bel.size⟩
theorem Pg.many (O : Pg w col W eb g h mb gb N E M G) (hk : k < 2) : W.cell? ⟨mb, k, none⟩ = some (.int .i64 (M k : Int)) := by
  rw [blk2_at O.mblk hk, pick2 (fun j => Value.int .i64 ((M j : Nat) : Int)) hk]
theorem Pg.gots {b : Nat} (O : Pg w col W eb g h mb (some b) N E M G) (hk : k < 2) : W.cell? ⟨b, k, none⟩ = some (.int .i64 (G k : Int)) := by
  rw [blk2_at (O.gblk b rfl).1 hk, pick2 (fun j => Value.int .i64 ((G j : Nat) : Int)) hk]
/-- Out of one end -/
theorem Pg.out {key : Nat} (O : Pg w col W eb g h mb gb N E M G) (I : EndI key (E k) (msgs (M k)) (msgs (M (1 - k))) (E (1 - k)).got) (hk : k < 2) (hM : ∀ j, j < 2 → M j ≤ 31) (hkey : key < 18446744073709551616) :
    Calls Try.prog 13 #[.pointer (some ⟨g k, 0, none⟩)] W fun e W' => ∃ A d, e = .returned (.slice A (outF (E k)).length d) ∧ Hid (Pg w (recol col W.heap.size k) W' eb g h mb gb N (upd E k { E k with owe := false }) M G) ∧ Hid (RowAt w (recol col W.heap.size k) W' k (.slice A (outF (E k)).length d) (outF (E k))) := by
  obtain ⟨q, HE, hc⟩ := O.sys.ends k hk
  have hw := I.waitLen
  have l1 := I.ack
  have l2 := I.og
  have l3 := I.got
  have m1 := hM k hk
  have m2 := hM (1 - k) (by omega)
  rw [msgs_len] at hw l2 l3
  refine (out_any (g k) (h k) N q (E k) W HE (by omega) (by omega) (by rw [I.key]; exact hkey) I.win0 I.win (fun m hm => by have := msgs_le (M k) m (by rw [I.wait] at hm; exact List.mem_of_mem_drop hm); omega) (by omega)).mono ?_
  rintro e W' ⟨v, vs, rfl, ho, hr, H, F⟩
  obtain ⟨hH, hC⟩ := EndOk.step HE hc O.sys.bel.size H (F.mono (fun i hi => by simp at hi; simp [hi])) (.inl rfl)
  have hR := RowAt.of_own (w := w) (col := col) ho hr O.sys.bel.size W.heap.size (Nat.le_refl _) k
  obtain ⟨A, d, rfl, -⟩ := hR.form
  exact ⟨A, d, rfl, Lib.hid (O.end_ hk hH hC (Nat.le_refl _)), Lib.hid hR⟩
/-- In of one end -/
theorem Pg.in_ {key og : Nat} {own other : List (List UInt8)} {x : List (List UInt8)} {E' : EndV} {p : List UInt8} {A : Option Addr} {n c : Nat} (O : Pg w col W eb g h mb gb N E M G) (I : EndI key (E k) own other og) (h1 : own.length ≤ 1000) (h2 : other.length ≤ 1000) (hk : k < 2) (hkey : key < 18446744073709551616)
    (hF : inF (E k) p = (x, 0, E')) (hl : Reads W W.heap.size 1 A n (bytesV p)) (hn : n ≤ 100000) (hnc : n ≤ c) (hN : N ≤ 100000) :
    Calls Try.prog 19 #[.pointer (some ⟨g k, 0, none⟩), .slice A n c] W fun e W' => ∃ A' d', e = .returned (.tuple #[.slice A' x.length d', .int .i64 0]) ∧ Hid (Pg w (recol col W.heap.size k) W' eb g h mb gb (N + 1) (upd E k E') M G) ∧ Hid (RowAt w (recol col W.heap.size k) W' k (.slice A' x.length d') x) ∧ Chg w col k W W' := by
  obtain ⟨q, HE, hc⟩ := O.sys.ends k hk
  have hw := I.waitLen
  have l1 := I.ack
  have l2 := I.og
  have l3 := I.got
  refine (in_any (g k) (h k) N q (E k) A n c p W HE hl hn hnc (by rw [I.key]; exact hkey) (by omega) (by omega) (by rw [I.forg]; omega) (by omega) (by omega) (fun k l hk => (I.held k l hk).2.1)).mono ?_
  rintro e W' ⟨v, vs, rfl, ho, hr, H, F⟩
  rw [hF] at hr H ⊢
  obtain ⟨hH, hC⟩ := EndOk.step HE hc O.sys.bel.size H F (.inl rfl)
  have hR := RowAt.of_own (w := w) (col := col) ho hr O.sys.bel.size W.heap.size (Nat.le_refl _) k
  obtain ⟨A', d', rfl, -⟩ := hR.form
  exact ⟨A', d', rfl, Lib.hid (O.end_ (E' := E') hk hH hC (Nat.le_succ N)), Lib.hid hR, hC⟩
end
/-- the ends while messages are given to them -/
def EN (win : Int) (key : Nat) (c : Nat → Nat) : Nat → EndV := fun j => { newE (winOf win j) key with wait := msgs (c j) }
theorem EN_send (win : Int) (key : Nat) (c : Nat → Nat) (k i : Nat) : upd (EN win key (upd c k i)) k { EN win key (upd c k i) k with wait := (EN win key (upd c k i) k).wait ++ [[byt i]] } = EN win key (upd c k (i + 1)) := by
  funext j
  unfold EN
  by_cases e : j = k
  · subst e
    rw [upd_at, upd_at, upd_at, msgs_succ]
  · rw [upd_ne _ _ e, upd_ne _ _ e, upd_ne _ _ e]
theorem EN_inv (win : Int) (key : Nat) (M : Nat → Nat) : PInv key M (EN win key M) ∧ ∀ k, k < 2 → (EN win key M k).ack = 0 ∧ (EN win key M k).got = 0 := by
  refine ⟨⟨fun k hk => ?_, fun k hk s => rfl, fun k hk => .inr rfl⟩, fun k hk => ⟨rfl, rfl⟩⟩
  have := winOf_le win k
  exact ⟨rfl, this.1, this.2, rfl, rfl, Nat.le_refl _, Nat.zero_le _, Nat.zero_le _, fun s b hb => by cases hb⟩
theorem PInv.lost {key k : Nat} {M : Nat → Nat} {E : Nat → EndV} (I : PInv key M E) (hz : ∀ k, k < 2 → (E k).ack = 0 ∧ (E k).got = 0) (hk : k < 2) :
    PInv key M (upd E k { E k with owe := false }) ∧ ∀ j, j < 2 → (upd E k { E k with owe := false } j).ack = 0 ∧ (upd E k { E k with owe := false } j).got = 0 := by
  have hg : ∀ j, (upd E k { E k with owe := false } j).got = (E j).got := upd_got rfl
  have ha : ∀ j, (upd E k { E k with owe := false } j).ack = (E j).ack := fun j => by
    unfold upd
    split
    · rename_i e; rw [e]
    · rfl
  refine ⟨⟨fun j hj => ?_, fun j hj => ?_, fun j hj => .inr ?_⟩, fun j hj => by rw [hg, ha]; exact hz j hj⟩
  · rw [hg]
    by_cases e : j = k
    · subst e; rw [upd_at]; exact (I.ends j hj).out
    · rw [upd_ne _ _ e]; exact I.ends j hj
  · by_cases e : j = k
    · subst e; rw [upd_at]; exact I.nohd j hj
    · rw [upd_ne _ _ e]; exact I.nohd j hj
  · rw [hg, ha, (hz (1 - j) (by omega)).1, (hz j hj).2]
theorem rnd_zero {M : Nat → Nat} {E : Nat → EndV} : Rnd M 0 0 E := ⟨fun _ => by omega, fun _ => by omega, fun _ => .inl rfl, fun h => absurd h (by omega), fun h => absurd h (by omega)⟩
theorem one_per {W : World} {g d : Nat} (h : Blk W g 5 #[.int .u8 (d : Int)]) (hd : d < 256) : Per W (some ⟨g, 0, none⟩) 1 [byt d] := per_of ⟨rfl, fun _ => ⟨_, rfl, h.lt, fun j u hu => by
    rw [addr_add0]
    refine h.at_ ?_
    cases j with
    | zero => rw [← hu]; show _ = some (Value.int .u8 ((byt d).toNat : Int)); rw [byt_toNat hd]; rfl
    | succ j => simp [bytesV] at hu⟩⟩
theorem Pg.gfix {w W : World} {col : Nat → Nat} {eb mb N : Nat} {gb : Option Nat} {g h M G G' : Nat → Nat} {E : Nat → EndV} (O : Pg w col W eb g h mb gb N E M G) (h0 : ∀ j, j < 2 → G j = G' j) : Pg w col W eb g h mb gb N E M G' :=
  ⟨O.sys, O.mblk, O.mcol, O.mlow, fun b hb => by
    have := O.gblk b hb
    rw [h0 0 (by omega), h0 1 (by omega)] at this
    exact this⟩
theorem msg_one {w : World} {b i n c d : Nat} {A : Option Addr} (M : Msg w b i A n c [byt d]) (hd : d < 256) : ∃ ad, A = some ad ∧ n = 1 ∧ ∀ W, Ok w W → W.cell? ad = some (.int .u8 (d : Int)) := by
  have h1 : 1 = n := M.byt.1
  subst h1
  obtain ⟨ad, cs, z, e, hk, hc⟩ := M.byt.2 (by omega)
  refine ⟨ad, e, rfl, fun W hW => ?_⟩
  have h2 := hc 0 (.int .u8 ((byt d).toNat : Int)) rfl
  rw [byt_toNat hd] at h2
  have h3 : w.cell? ad = some (.int .u8 (d : Int)) := h2
  exact (Below.cell hW (World.block_lt_of_cell? _ _ h3)).trans h3
end Go.Proofs.Ytbekkndkdfmijaa
