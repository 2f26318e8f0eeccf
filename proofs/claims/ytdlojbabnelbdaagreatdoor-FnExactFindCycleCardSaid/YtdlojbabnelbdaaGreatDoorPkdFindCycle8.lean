/-
  Slices of records whose cells hold numbers and slices: a spine and its rows. No program is in sight.
-/
import Derived.Test.YtdlojbabnelbdaaGreatDoorPkdFindCycle1
import Derived.Test.YtdlojbabnelbdaaGreatDoorPkdFindCycle7
import Derived.Deep.CutBlock
namespace Go.Proofs.YtdlojbabnelbdaaGreatDoor
open Go.RowKit

/-! ### lists of cells, element by element -/
section
variable {α : Type} {f : α → List Value} {s : Nat}
theorem flat_len (hf : ∀ a, (f a).length = s) (ts : List α) : (ts.flatMap f).length = ts.length * s := by
  induction ts with
  | nil => simp
  | cons t r ih => rw [List.flatMap_cons, List.length_append, hf, ih, List.length_cons, Nat.succ_mul]; omega
theorem flat_get (hf : ∀ a, (f a).length = s) : ∀ {ts : List α} {k : Nat} {t : α} {j : Nat}, ts[k]? = some t → j < s → (ts.flatMap f)[k * s + j]? = (f t)[j]?
  | [], k, t, j, h, _ => by simp at h
  | u :: r, 0, t, j, h, hj => by
    simp at h; subst h
    rw [List.flatMap_cons, Nat.zero_mul, Nat.zero_add, List.getElem?_append_left (by rw [hf]; exact hj)]
  | u :: r, k + 1, t, j, h, hj => by
    have ih := flat_get hf (ts := r) (k := k) (t := t) (j := j) (by simpa using h) hj
    rw [List.flatMap_cons, List.getElem?_append_right (by rw [hf, Nat.succ_mul]; omega), hf, show (k + 1) * s + j - s = k * s + j from by rw [Nat.succ_mul]; omega]
    exact ih
theorem flat_snoc (ts : List α) (t : α) : (ts ++ [t]).flatMap f = ts.flatMap f ++ f t := by simp
theorem flat_set (hf : ∀ a, (f a).length = s) : ∀ {ts : List α} {k j : Nat} {t u : α} {v : Value}, ts[k]? = some t → j < s → (f t).set j v = f u → (ts.flatMap f).set (k * s + j) v = (ts.set k u).flatMap f
  | [], k, j, t, u, v, h, _, _ => by simp at h
  | x :: r, 0, j, t, u, v, h, hj, he => by
    simp at h; subst h
    rw [List.flatMap_cons, Nat.zero_mul, Nat.zero_add, List.set_append_left _ _ (by rw [hf]; exact hj), he]; rfl
  | x :: r, k + 1, j, t, u, v, h, hj, he => by
    have ih := flat_set hf (ts := r) (k := k) (j := j) (t := t) (u := u) (v := v) (by simpa using h) hj he
    rw [List.flatMap_cons, List.set_append_right _ _ (by rw [hf, Nat.succ_mul]; omega), hf, show (k + 1) * s + j - s = k * s + j from by rw [Nat.succ_mul]; omega, ih]
    rfl
end

/-! ### rows of any kind -/
structure Rw where
  A : Option Addr
  n : Nat
  c : Nat
  e : TypeId
  s : Nat
  cs : List Value
def Rw.val (r : Rw) : Value := .slice r.A r.n r.c
def Rw.own (r : Rw) (w : World) (lo : Nat) : Prop := Own w lo r.e r.s r.A r.n r.c r.cs
def AptR (t u : Rw) : Prop := ∀ b, blk t.A = some b → blk u.A ≠ some b
/-- A row of numbers. -/
def Rw.i (e : TypeId) (A : Option Addr) (c : Nat) (xs : List Int) : Rw := ⟨A, xs.length, c, e, 1, ints xs⟩

/-- An owned spine, cells of s to an element, and its rows, all apart. -/
structure Recs (w : World) (lo : Nat) (e : TypeId) (s : Nat) (A : Option Addr) (n c : Nat) (cs : List Value) (rows : List Rw) : Prop where
  spine : Own w lo e s A n c cs
  each : ∀ r ∈ rows, r.own w lo
  apt : rows.Pairwise AptR
  types : ∀ r ∈ rows, r.e ≠ e
section
variable {w w' w2 : World} {lo lo' n c s : Nat} {e : TypeId} {A : Option Addr} {cs : List Value} {rows : List Rw}
theorem Rw.own.below {r : Rw} (h : r.own w lo) (z : Below w.heap.size w w') : r.own w' lo := Own.below h z
theorem Rw.own.mono {r : Rw} (h : r.own w lo) (hl : lo' ≤ lo) : r.own w lo' := Own.mono h hl
theorem Recs.nil (h : Own w lo e s A 0 c []) : Recs w lo e s A 0 c [] [] := ⟨h, by simp, List.Pairwise.nil, by simp⟩
theorem Recs.below (h : Recs w lo e s A n c cs rows) (z : Below w.heap.size w w') : Recs w' lo e s A n c cs rows := ⟨h.spine.below z, fun r hr => (h.each r hr).below z, h.apt, h.types⟩
theorem Recs.mono (h : Recs w lo e s A n c cs rows) (hl : lo' ≤ lo) : Recs w lo' e s A n c cs rows := ⟨h.spine.mono hl, fun r hr => (h.each r hr).mono hl, h.apt, h.types⟩
theorem Recs.drewN (h : Recs w lo e s A n c cs rows) (k : Nat) : Recs (w.drewN k) lo e s A n c cs rows := ⟨h.spine.drewN k, fun r hr => Own.drewN (h.each r hr) k, h.apt, h.types⟩
theorem Recs.alloc (h : Recs w lo e s A n c cs rows) (o : Obj) : Recs (w.alloc o) lo e s A n c cs rows := ⟨h.spine.alloc o, fun r hr => (Own.alloc (h.each r hr) o), h.apt, h.types⟩
/-- A row's block is not the spine's. -/
theorem Recs.row_ne (h : Recs w lo e s A n c cs rows) : ∀ r ∈ rows, ∀ b, blk A = some b → blk r.A ≠ some b := fun r hr b hb hb' => Own.blk_ne h.spine (h.each r hr) (fun he => h.types r hr he.symm) b hb hb'
theorem Recs.kept (h : Recs w lo e s A n c cs rows) (hA : ∀ b, blk A = some b → w'.heap[b]? = w.heap[b]?) (hR : ∀ r ∈ rows, ∀ b, blk r.A = some b → w'.heap[b]? = w.heap[b]?) : Recs w' lo e s A n c cs rows :=
  ⟨h.spine.kept (fun b hb _ _ => hA b hb), fun r hr => Own.kept (h.each r hr) (fun b hb _ _ => hR r hr b hb), h.apt, h.types⟩
theorem Recs.set_far (h : Recs w lo e s A n c cs rows) {g i : Nat} (hg : g < lo) (u : Value) : Recs (w.setCell ⟨g, i, none⟩ u) lo e s A n c cs rows :=
  ⟨h.spine.far (p := ⟨g, i, none⟩) (fun e => by have h1 : lo ≤ g := h.spine.blk_ge _ e; omega) u, fun r hr => Own.far (h.each r hr) (p := ⟨g, i, none⟩) (fun e => by have h1 : lo ≤ g := Own.blk_ge (h.each r hr) _ e; omega) u, h.apt, h.types⟩
/-- One record more: the spine has grown, the new rows are apart from the old ones. -/
theorem Recs.append {A2 : Option Addr} {n2 c2 : Nat} {news : List Value} {more : List Rw} (h : Recs w lo e s A n c cs rows) (hs : Own w2 lo e s A2 n2 c2 (cs ++ news)) (hg : w.grownBy w2 (blk A)) (hm : ∀ r ∈ more, r.own w lo) (ha : more.Pairwise AptR) (ht : ∀ r ∈ more, r.e ≠ e)
    (hx : ∀ r ∈ rows, ∀ m ∈ more, AptR r m) : Recs w2 lo e s A2 n2 c2 (cs ++ news) (rows ++ more) := by
  have far : ∀ r : Rw, r.own w lo → r.e ≠ e → r.own w2 lo := fun r hr hne =>
    Own.grown hr hg (fun g hgA hb => Own.blk_ne h.spine hr (fun he => hne he.symm) g hgA hb)
  refine ⟨hs, fun r hr => ?_, ?_, fun r hr => ?_⟩
  · rcases List.mem_append.1 hr with h1 | h1
    · exact far r (h.each r h1) (h.types r h1)
    · exact far r (hm r h1) (ht r h1)
  · rw [List.pairwise_append]; exact ⟨h.apt, ha, hx⟩
  · rcases List.mem_append.1 hr with h1 | h1
    · exact h.types r h1
    · exact ht r h1
/-- New rows that lie from k on, old ones below it. -/
theorem Recs.apart {more : List Rw} {k : Nat} (h : Recs w lo e s A n c cs rows) (hk : w.heap.size ≤ k) (hm : ∀ r ∈ more, ∀ b, blk r.A = some b → k ≤ b) : ∀ r ∈ rows, ∀ m ∈ more, AptR r m := fun r hr m hm' b hb hb' => by
  have h1 := Own.blk_lt (h.each r hr) b hb
  have h2 := hm m hm' b hb'
  omega
theorem Recs.fr {X : Nat → Prop} (h : Recs w lo e s A n c cs rows) (hf : ∀ b, X b → w'.heap[b]? = w.heap[b]?) (hA : ∀ b, blk A = some b → X b) (hR : ∀ r ∈ rows, ∀ b, blk r.A = some b → X b) : Recs w' lo e s A n c cs rows :=
  h.kept (fun b hb => hf b (hA b hb)) (fun r hr b hb => hf b (hR r hr b hb))
theorem Blk.apt {w : World} {g : Nat} {t e : TypeId} {cur : Array Value} {lo n c s : Nat} {A : Option Addr} {cs : List Value} (h : Blk w g t cur) (h' : Own w lo e s A n c cs) (hne : t ≠ e) : blk A ≠ some g := by
  intro hb
  rcases h'.2 with ⟨rfl, _⟩ | ⟨b, off, cur2, rfl, _, hg, _⟩
  · simp [blk] at hb
  · simp [blk] at hb; subst hb
    unfold Blk at h
    rw [hg] at h
    simp at h
    exact hne h.2.symm
theorem Blk.grown {w w2 : World} {g : Nat} {t e : TypeId} {cur : Array Value} {lo n c s : Nat} {A : Option Addr} {cs : List Value} (h : Blk w g t cur) (h' : Own w lo e s A n c cs) (hg : w.grownBy w2 (blk A)) (hne : t ≠ e) : Blk w2 g t cur :=
  (hg.block g (Array.getElem?_eq_some_iff.1 h).1 (fun e => h.apt h' hne e.symm)).trans h
theorem Own.grown_apt {w w2 : World} {lo lo' n n' c c' s s' : Nat} {e e' : TypeId} {A A' : Option Addr} {cs cs' : List Value} (h : Own w lo' e' s' A' n' c' cs') (h0 : Own w lo e s A n c cs) (hg : w.grownBy w2 (blk A)) (hne : e' ≠ e) : Own w2 lo' e' s' A' n' c' cs' :=
  h.grown hg (fun g hg' hb => Own.blk_ne h0 h (fun he => hne he.symm) g hg' hb)
theorem Recs.set_blk {g i : Nat} {t : TypeId} {cur : Array Value} (h : Recs w lo e s A n c cs rows) (hb : Blk w g t cur) (ht : t ≠ e) (hr : ∀ r ∈ rows, t ≠ r.e) (u : Value) : Recs (w.setCell ⟨g, i, none⟩ u) lo e s A n c cs rows :=
  ⟨h.spine.far (p := ⟨g, i, none⟩) (hb.apt h.spine ht) u, fun r hr' => Own.far (h.each r hr') (p := ⟨g, i, none⟩) (hb.apt (h.each r hr') (hr r hr')) u, h.apt, h.types⟩
/-- The blocks of a slice of records. -/
def RecsB (A : Option Addr) (rows : List Rw) (b : Nat) : Prop := blk A = some b ∨ ∃ r ∈ rows, blk r.A = some b
theorem Recs.blk_ge (h : Recs w lo e s A n c cs rows) : ∀ b, RecsB A rows b → lo ≤ b ∧ b < w.heap.size := by
  rintro b (hb | ⟨r, hr, hb⟩)
  · exact ⟨h.spine.blk_ge b hb, h.spine.blk_lt b hb⟩
  · exact ⟨Own.blk_ge (h.each r hr) b hb, Own.blk_lt (h.each r hr) b hb⟩
theorem Recs.keptB (h : Recs w lo e s A n c cs rows) (hk : ∀ b, RecsB A rows b → w'.heap[b]? = w.heap[b]?) : Recs w' lo e s A n c cs rows :=
  h.kept (fun b hb => hk b (.inl hb)) (fun r hr b hb => hk b (.inr ⟨r, hr, hb⟩))
end
end Go.Proofs.YtdlojbabnelbdaaGreatDoor

/-
  Contract of the reference's l25Length: after how many steps a run repeats itself (Brent's search).
-/
namespace Go.Proofs.YtdlojbabnelbdaaGreatDoor
open Go.RowKit

theorem sameConf_iff (c d : Conf) : sameConfB c d = true ↔ c = d := by
  unfold sameConfB sameI
  simp only [Bool.and_eq_true, decide_eq_true_eq]
  constructor
  · rintro ⟨⟨h1, h2⟩, h3⟩
    cases c; cases d
    simp only at h1 h2 h3
    rw [h1, h2, h3]
  · rintro rfl; exact ⟨⟨rfl, rfl⟩, rfl⟩
theorem ConfC.off {w : World} {lo f g : Nat} {c : Conf} {cs : Array Value} (h : ConfC w lo f c) (hb : Blk w g 57 cs) (hne : f ≠ g) (x y z : Value) : ConfC (((w.setCell ⟨g, 0, none⟩ x).setCell ⟨g, 1, none⟩ y).setCell ⟨g, 2, none⟩ z) lo f c := by
  obtain ⟨L, a, R, d, h1, h2, h3, h4⟩ := h
  have n2 : blk L ≠ some g := hb.apt h2 (by decide)
  have n3 : blk R ≠ some g := hb.apt h3 (by decide)
  exact ⟨L, a, R, d, ((h1.far (p := ⟨g, 0, none⟩) hne x).far (p := ⟨g, 1, none⟩) hne y).far (p := ⟨g, 2, none⟩) hne z,
    ((h2.far (p := ⟨g, 0, none⟩) n2 x).far (p := ⟨g, 1, none⟩) n2 y).far (p := ⟨g, 2, none⟩) n2 z, ((h3.far (p := ⟨g, 0, none⟩) n3 x).far (p := ⟨g, 1, none⟩) n3 y).far (p := ⟨g, 2, none⟩) n3 z, h4⟩
theorem sameConf_c {w : World} {lo f f' : Nat} {c d : Conf} (h : ConfC w lo f c) (h' : ConfC w lo f' d) (hx : c.xs.length ≤ 200) (hy : c.ys.length ≤ 200) :
    Calls Tryz.prog 38 #[.pointer (some ⟨f, 0, none⟩), .pointer (some ⟨f', 0, none⟩)] w fun e w' => e = .returned (.bool (sameConfB c d)) ∧ ∃ nq, w' = w.drewN nq := by
  obtain ⟨L, a, R, b, h1, h2, h3, _⟩ := h
  obtain ⟨L', a', R', b', h1', h2', h3', _⟩ := h'
  exact l25SameConfig_any f c.q L _ a c.xs R _ b c.ys f' d.q L' _ a' d.xs R' _ b' d.ys w h1.confAt h2.rd h3.rd h1'.confAt h2'.rd h3'.rd (by omega) (by omega)
/-! ### The search in plain words -/
section
variable {f : Nat → Conf}
/-- The slow place u, where n is the fast one. -/
def BrInv (f : Nat → Conf) (u n : Nat) : Prop := (u = 0 ∨ ∃ v, u = 2 * v + 1 ∧ ∀ m, v < m → m ≤ u → f v ≠ f m) ∧ ∀ m, u < m → m ≤ n → f u ≠ f m
theorem BrInv.start : BrInv f 0 0 := ⟨.inl rfl, fun m h1 h2 => by omega⟩
theorem BrInv.jump {u : Nat} (h : BrInv f u (2 * u + 1)) : BrInv f (2 * u + 1) (2 * u + 1) := ⟨.inr ⟨u, rfl, fun m h1 h2 => h.2 m h1 h2⟩, fun m h1 h2 => by omega⟩
theorem BrInv.next {u n : Nat} (h : BrInv f u n) (hn : f u ≠ f (n + 1)) : BrInv f u (n + 1) := ⟨h.1, fun m h1 h2 => by
  by_cases e : m = n + 1
  · rw [e]; exact hn
  · exact h.2 m h1 (by omega)⟩
/-- What the search gives: a length, or 0 where nothing comes again up to N. -/
def LenOk (f : Nat → Conf) (N L : Nat) : Prop := (L = 0 ∧ ∀ j i, j < i → i ≤ N → f j ≠ f i) ∨ (0 < L ∧ ∃ s, s ≤ 4 * N + 4 ∧ f s = f (s + L) ∧ ∀ d, 0 < d → d < L → f s ≠ f (s + d))
theorem LenOk.found {N u l : Nat} (h : BrInv f u (u + l)) (hb : u ≤ 4 * N + 4) (he : f u = f (u + l + 1)) : LenOk f N (l + 1) :=
  .inr ⟨by omega, u, hb, he, fun d h1 h2 => h.2 (u + d) (by omega) (by omega)⟩
end
theorem LenOk.none_ {sy : Int} {rs : List R3} {N u l n : Nat} (h : BrInv (itC sy rs blankC) u (u + l)) (hl : l ≤ u + 1) (hn : 4 * N + 4 ≤ n) (he : n = u + l) : LenOk (itC sy rs blankC) N 0 :=
  .inl ⟨rfl, rep_never (t := u) (n := n) (itC_step sy rs blankC) h.1 hn (by omega)⟩
theorem LenOk.halts {sy : Int} {rs : List R3} {N i : Nat} (hA : Alive sy rs blankC N) (hh : haltC sy rs (itC sy rs blankC i) = true) : LenOk (itC sy rs blankC) N 0 :=
  .inl ⟨rfl, fun j k hj hk he => by
    have h := (rep_alive (i := k) (fun a ha => hA a (by omega)) hj he i).2
    rw [hh] at h; cases h⟩
theorem LenOk.full {sy : Int} {rs : List R3} {N i : Nat} (hA : Alive sy rs blankC N) (hh : roomC (itC sy rs blankC (i + 1)) = false) : LenOk (itC sy rs blankC) N 0 :=
  .inl ⟨rfl, fun j k hj hk he => by
    have h := ((rep_alive (i := k) (fun a ha => hA a (by omega)) hj he (i + 1)).1 i (by omega)).2
    rw [hh] at h; cases h⟩
def LenP (w : World) (sy : Int) (rs : List R3) (N : Nat) (e : Ending) (w' : World) : Prop := ∃ L : Nat, e = .returned (.int .i64 (L : Int)) ∧ LenOk (itC sy rs blankC) N L ∧ L ≤ 4 * N + 4 ∧ (0 < L → ∀ n, Alive sy rs blankC n) ∧ Below w.heap.size w w'
set_option maxRecDepth 100000 in
set_option maxHeartbeats 8000000 in
theorem l25Length_any (g : Nat) (sy st : Int) (A : Option Addr) (n k : Nat) (rs : List R3) (N M : Nat) (w : World) (hm : MachAt w g sy st A n k) (hrs : S3 w A n rs) (hgc : goodC sy st rs blankC) (hn : n ≤ 1048576) (hN : N ≤ 20000) (hAN : Alive sy rs blankC N) (hM1 : M ≤ 4 * N + 4) (hM2 : 4 * N + 4 ≤ M) :
    Calls Tryz.prog 36 #[.pointer (some ⟨g, 0, none⟩), .int .i64 (M : Int)] w (LenP w sy rs N) := by
  have HG := Lib.hid hgc
  have HAN := Lib.hid hAN
  clear hgc hAN
  go_enter Tryz.func36, Tryz.ntmps36
  go_wp2_with fail
  refine (l25Blank_any w).mono ?_
  rintro e w1 ⟨L1, a1, R1, d1, rfl, oL1, oR1, hap1, z1⟩
  simp only [List.length_nil] at oL1 oR1 ⊢
  obtain ⟨W1, hW_⟩ : ∃ W_, W_ = w1.alloc (.cells #[.int .i64 0, .slice L1 0 a1, .slice R1 0 d1] 57) := ⟨_, rfl⟩
  have b1 : Blk W1 w1.heap.size 57 #[.int .i64 0, .slice L1 0 a1, .slice R1 0 d1] := by rw [hW_]; exact Blk.new w1 _ _
  have y1 : Below w1.heap.size w1 W1 := by rw [hW_]; exact (Below.refl _ _).alloc (Nat.le_refl _) _
  have HW1 := Lib.hid hW_
  clear hW_
  have HC1 : Hid (ConfC W1 w.heap.size w1.heap.size blankC) := Lib.hid ⟨L1, a1, R1, d1, b1, oL1.below y1, oR1.below y1, hap1⟩
  have HZ1 := Lib.hid (z1.trans (y1.mono z1.size))
  have hs1 : w.heap.size ≤ w1.heap.size := z1.size
  have hs1' : w1.heap.size < W1.heap.size := b1.lt
  clear oL1 oR1 hap1 z1 y1 b1
  go_wp2_with fail
  rw [← HW1.out]
  clear HW1
  refine (l25Blank_any W1).mono ?_
  rintro e w2 ⟨L2, a2, R2, d2, rfl, oL2, oR2, hap2, z2⟩
  simp only [List.length_nil] at oL2 oR2 ⊢
  obtain ⟨W2, hW_⟩ : ∃ W_, W_ = w2.alloc (.cells #[.int .i64 0, .slice L2 0 a2, .slice R2 0 d2] 57) := ⟨_, rfl⟩
  have b2 : Blk W2 w2.heap.size 57 #[.int .i64 0, .slice L2 0 a2, .slice R2 0 d2] := by rw [hW_]; exact Blk.new w2 _ _
  have y2 : Below w2.heap.size w2 W2 := by rw [hW_]; exact (Below.refl _ _).alloc (Nat.le_refl _) _
  have HW2 := Lib.hid hW_
  clear hW_
  have HC2 : Hid (ConfC W2 w.heap.size w2.heap.size blankC) := Lib.hid ⟨L2, a2, R2, d2, b2, (oL2.below y2).mono HZ1.out.size, (oR2.below y2).mono HZ1.out.size, hap2⟩
  have HC12 := Lib.hid (HC1.out.below (z2.trans (y2.mono z2.size)))
  have HZ2 := Lib.hid (HZ1.out.trans ((z2.trans (y2.mono z2.size)).mono HZ1.out.size))
  have hs2 : W1.heap.size ≤ w2.heap.size := z2.size
  clear oL2 oR2 hap2 z2 y2 b2 HC1 HZ1
  obtain ⟨g5, hg5⟩ : ∃ g5, g5 = w1.heap.size := ⟨_, rfl⟩
  obtain ⟨g6, hg6⟩ : ∃ g6, g6 = w2.heap.size := ⟨_, rfl⟩
  have h56 : g5 ≠ g6 := by omega
  have h5w : w.heap.size ≤ g5 := by omega
  have h6w : w.heap.size ≤ g6 := by omega
  rw [← hg5] at HC12
  rw [← hg6] at HC2
  go_upto_region 3 with fail
  rw [← HW2.out, ← hg5, ← hg6]
  clear HW2 hg5 hg6 hs1 hs1' hs2
  go_wp2_with fail
  go_loopw [7, 8, 9] (fun s7 s8 s9 wr => ∃ u l : Nat, s7 = .int .i64 ((u + 1 : Nat) : Int) ∧ s8 = .int .i64 (l : Int) ∧ s9 = .int .i64 ((u + l : Nat) : Int) ∧ l ≤ u + 1 ∧ u + l ≤ M ∧ Hid (BrInv (itC sy rs blankC) u (u + l)) ∧ Hid (Alive sy rs blankC (u + l)) ∧ Hid (ConfC wr w.heap.size g5 (itC sy rs blankC u)) ∧ Hid (ConfC wr w.heap.size g6 (itC sy rs blankC (u + l))) ∧ Hid (Below w.heap.size w wr)) (fun _ _ s9 _ => M - (intOf s9).toNat)
  case atStart => exact ⟨0, 0, rfl, rfl, rfl, by omega, by omega, Lib.hid BrInv.start, Lib.hid (Alive.zero _ _ _), HC12, HC2, HZ2⟩
  case round =>
    obtain ⟨u, l, rfl, rfl, rfl, hlu, hle, HI, HA, HS, HFa, HZ⟩ := hrel
    clear HC12 HC2 HZ2
    have HGF := Lib.hid (HA.out.good HG.out)
    by_cases hlt : u + l < M
    rotate_left
    · have i1 : ¬ ((u + l : Nat) : Int) < (M : Int) := by omega
      have HE : Hid (LenP w sy rs N (.returned (.int .i64 0)) wr) := Lib.hid ⟨0, rfl, LenOk.none_ HI.out hlu (n := u + l) (by omega) rfl, by omega, fun h => absurd h (Nat.lt_irrefl 0), HZ.out⟩
      go_wp2_with fail
      go_ret
      exact HE.out
    have i1 : ((u + l : Nat) : Int) < (M : Int) := by omega
    have HHALT := Lib.hid (l05Halts_c (hm.below HZ.out) (hrs.below HZ.out) HFa.out HGF.out hn)
    cases hh : haltC sy rs (itC sy rs blankC (u + l)) with
    | true =>
      have HE0 := Lib.hid (LenOk.halts HAN.out hh)
      rw [hh] at HHALT
      clear hh
      go_wp2_with (go_at_call 55; refine HHALT.out.mono ?_; rintro e W3 ⟨rfl, z3⟩)
      go_ret
      exact ⟨0, rfl, HE0.out, by omega, fun h => absurd h (Nat.lt_irrefl 0), HZ.out.trans (z3.mono HZ.out.size)⟩
    | false =>
      have HH := Lib.hid hh
      rw [hh] at HHALT
      clear hh
      go_upto_if 26 with (go_at_call 55; refine HHALT.out.mono ?_; rintro e W3 ⟨rfl, z3⟩)
      have HS3 := Lib.hid (HS.out.below z3)
      have HF3 := Lib.hid (HFa.out.below z3)
      have HZ3 := Lib.hid (HZ.out.trans (z3.mono HZ.out.size))
      clear z3 HS HFa HZ HHALT
      go_cut [7, 8] (fun s7 s8 wx => ∃ u' l' : Nat, s7 = .int .i64 ((u' + 1 : Nat) : Int) ∧ s8 = .int .i64 (l' : Int) ∧ u' + l' = u + l ∧ l' ≤ u' ∧ Hid (BrInv (itC sy rs blankC) u' (u' + l')) ∧ Hid (ConfC wx w.heap.size g5 (itC sy rs blankC u')) ∧ Hid (ConfC wx w.heap.size g6 (itC sy rs blankC (u + l))) ∧ Hid (Below w.heap.size w wx))
      case first =>
        by_cases hq : l = u + 1
        · have q1 : ((l : Int) == ((u + 1 : Nat) : Int)) = true := by rw [hq]; simp
          obtain ⟨La, aa, Ra, da, hFb, hFl, hFr, hFp⟩ := HF3.out
          have hcp := conf_parts HGF.out
          have HOW := Lib.hid (l05OwnConfig_any g6 _ La _ aa _ Ra _ da _ W3 hFb.confAt hFl.rd hFr.rd (by have := hcp.2.2.2.2.2.2.2.1; omega) (by have := hcp.2.2.2.2.2.2.2.2.1; omega))
          have HQ := Lib.hid hq
          clear hFb hFl hFr hFp hcp hq
          go_wp2_with fail
          refine HOW.out.mono ?_
          rintro e W4 ⟨L4, a4, R4, d4, rfl, oL4, oR4, hap4, z4⟩
          obtain ⟨Lb, ab, Rb, db, hSb, _, _, _⟩ := HS3.out.below z4
          have hF4 := HF3.out.below z4
          have hz4 := HZ3.out.trans (z4.mono HZ3.out.size)
          have HSn : Hid (ConfC (((W4.setCell ⟨g5, 0, none⟩ (.int .i64 (itC sy rs blankC (u + l)).q)).setCell ⟨g5, 1, none⟩ (.slice L4 (itC sy rs blankC (u + l)).xs.length a4)).setCell ⟨g5, 2, none⟩ (.slice R4 (itC sy rs blankC (u + l)).ys.length d4)) w.heap.size g5 (itC sy rs blankC (u + l))) := Lib.hid
            (ConfC.set3 (c := itC sy rs blankC (u + l)) rfl hSb (oL4.mono HZ3.out.size) (oR4.mono HZ3.out.size) hap4)
          have HFn := Lib.hid (hF4.off hSb (fun e => h56 e.symm) (.int .i64 (itC sy rs blankC (u + l)).q) (.slice L4 (itC sy rs blankC (u + l)).xs.length a4) (.slice R4 (itC sy rs blankC (u + l)).ys.length d4))
          have HZn := Lib.hid (conf_below hz4 h5w (.int .i64 (itC sy rs blankC (u + l)).q) (.slice L4 (itC sy rs blankC (u + l)).xs.length a4) (.slice R4 (itC sy rs blankC (u + l)).ys.length d4))
          have u0 : W4.cell? ⟨g5, 0, none⟩ = some (.int .i64 (itC sy rs blankC u).q) := hSb.cell 0
          have u1 : W4.cell? ⟨g5, 1, none⟩ = some (.slice Lb (itC sy rs blankC u).xs.length ab) := hSb.cell 1
          have u2 : W4.cell? ⟨g5, 2, none⟩ = some (.slice Rb (itC sy rs blankC u).ys.length db) := hSb.cell 2
          have f0 := hSb.frozen 0
          have f1 := hSb.frozen 1
          have f2 := hSb.frozen 2
          have HIn : Hid (BrInv (itC sy rs blankC) (u + l) (u + l + 0)) := Lib.hid (by
            have h := HI.out
            rw [HQ.out, show u + (u + 1) = 2 * u + 1 by omega] at h ⊢
            exact h.jump)
          have HP2 : Hid (((u : Int) + 1) * 2 = ((u + l + 1 : Nat) : Int)) := Lib.hid (by rw [HQ.out]; omega)
          clear oL4 oR4 hap4 z4 hSb hF4 hz4
          go_wp2_with fail
          go_meet
          exact ⟨u + l, 0, by rw [HP2.out], rfl, by omega, by omega, HIn, HSn, HFn, HZn⟩
        · have q1 : ((l : Int) == ((u + 1 : Nat) : Int)) = false := by simp; omega
          go_wp2_with fail
          go_meet
          exact ⟨u, l, rfl, rfl, rfl, by omega, HI, HS3, HF3, HZ3⟩
      case rest =>
        obtain ⟨u', l', rfl, rfl, hul, hlu', HI', HS', HF', HZ'⟩ := hcut
        clear HI HS3 HF3 HZ3
        have HSTEP := Lib.hid (l05Step_c (hm.below HZ'.out) (hrs.below HZ'.out) HF'.out HGF.out hn)
        go_wp2_with fail
        refine HSTEP.out.mono ?_
        rintro e W4 ⟨L4, a4, R4, d4, rfl, oL4, oR4, hap4, z4⟩
        obtain ⟨W5, hW_⟩ : ∃ W_, W_ = W4.alloc (.cells #[.int .i64 (nextC sy rs (itC sy rs blankC (u + l))).q, .slice L4 (nextC sy rs (itC sy rs blankC (u + l))).xs.length a4, .slice R4 (nextC sy rs (itC sy rs blankC (u + l))).ys.length d4] 57) := ⟨_, rfl⟩
        have b5 : Blk W5 W4.heap.size 57 #[.int .i64 (nextC sy rs (itC sy rs blankC (u + l))).q, .slice L4 (nextC sy rs (itC sy rs blankC (u + l))).xs.length a4, .slice R4 (nextC sy rs (itC sy rs blankC (u + l))).ys.length d4] := by rw [hW_]; exact Blk.new W4 _ _
        have z5 : Below W4.heap.size W4 W5 := by rw [hW_]; exact (Below.refl _ _).alloc (Nat.le_refl _) _
        have HW5 := Lib.hid hW_
        clear hW_
        have z45 := z4.trans (z5.mono z4.size)
        have HS5 := Lib.hid (HS'.out.below z45)
        have HF5 := HF'.out.below z45
        have HZ5 := Lib.hid (HZ'.out.trans (z45.mono HZ'.out.size))
        have HOL := Lib.hid ((oL4.below z5).mono HZ'.out.size)
        have HOR := Lib.hid ((oR4.below z5).mono HZ'.out.size)
        have HAP := Lib.hid hap4
        have hwW4 : wc.heap.size ≤ W4.heap.size := z4.size
        obtain ⟨Lb, ab, Rb, db, hFb, _, _, _⟩ := HF5
        have h6c : g6 < W4.heap.size := by
          obtain ⟨_, _, _, _, h, _⟩ := HF'.out
          have := Blk.lt h
          omega
        clear oL4 oR4 hap4 z4 HSTEP HS' HF' HZ'
        go_upto_region 13 with fail
        rw [← HW5.out]
        clear HW5
        cases hro : roomC (nextC sy rs (itC sy rs blankC (u + l))) with
        | false =>
          have HE0 := Lib.hid (LenOk.full (i := u + l) HAN.out hro)
          clear hro
          go_wp2_with fail
          go_ret
          exact ⟨0, rfl, HE0.out, by omega, fun h => absurd h (Nat.lt_irrefl 0), HZ5.out⟩
        | true =>
          have HAL1 := Lib.hid (HA.out.next HH.out hro)
          clear hro
          have c0 : W5.cell? ⟨W4.heap.size, 0, none⟩ = some (.int .i64 (nextC sy rs (itC sy rs blankC (u + l))).q) := b5.cell 0
          have c1 : W5.cell? ⟨W4.heap.size, 1, none⟩ = some (.slice L4 (nextC sy rs (itC sy rs blankC (u + l))).xs.length a4) := b5.cell 1
          have c2 : W5.cell? ⟨W4.heap.size, 2, none⟩ = some (.slice R4 (nextC sy rs (itC sy rs blankC (u + l))).ys.length d4) := b5.cell 2
          have u0 : W5.cell? ⟨g6, 0, none⟩ = some (.int .i64 (itC sy rs blankC (u + l)).q) := hFb.cell 0
          have u1 : W5.cell? ⟨g6, 1, none⟩ = some (.slice Lb (itC sy rs blankC (u + l)).xs.length ab) := hFb.cell 1
          have u2 : W5.cell? ⟨g6, 2, none⟩ = some (.slice Rb (itC sy rs blankC (u + l)).ys.length db) := hFb.cell 2
          have f0 := hFb.frozen 0
          have f1 := hFb.frozen 1
          have f2 := hFb.frozen 2
          obtain ⟨W6, hW6⟩ : ∃ W6, W6 = ((W5.setCell ⟨g6, 0, none⟩ (.int .i64 (nextC sy rs (itC sy rs blankC (u + l))).q)).setCell ⟨g6, 1, none⟩ (.slice L4 (nextC sy rs (itC sy rs blankC (u + l))).xs.length a4)).setCell ⟨g6, 2, none⟩ (.slice R4 (nextC sy rs (itC sy rs blankC (u + l))).ys.length d4) := ⟨_, rfl⟩
          have HF6 : Hid (ConfC W6 w.heap.size g6 (itC sy rs blankC (u + l + 1))) := Lib.hid (by rw [hW6]; exact ConfC.set3 (c := nextC sy rs (itC sy rs blankC (u + l))) rfl hFb HOL.out HOR.out HAP.out)
          have HS6 : Hid (ConfC W6 w.heap.size g5 (itC sy rs blankC u')) := Lib.hid (by rw [hW6]; exact HS5.out.off hFb h56 _ _ _)
          have HZ6 : Hid (Below w.heap.size w W6) := Lib.hid (by rw [hW6]; exact conf_below HZ5.out h6w _ _ _)
          have HW6 := Lib.hid hW6
          have HGu := conf_parts ((show Alive sy rs blankC u' from fun j hj => HA.out j (by omega)).good HG.out)
          have HSC := Lib.hid (sameConf_c HS6.out HF6.out (by have := HGu.2.2.2.2.2.2.2.1; omega) (by have := HGu.2.2.2.2.2.2.2.2.1; omega))
          clear hFb b5 hW6 HGu
          go_upto_region 16 with fail
          rw [← HW6.out]
          clear HW6 c0 c1 c2 u0 u1 u2 f0 f1 f2
          go_wp2_with fail
          refine HSC.out.mono ?_
          rintro e W7 ⟨rfl, nq, rfl⟩
          have HUL : Hid (u + l = u' + l') := Lib.hid hul.symm
          cases hsm : sameConfB (itC sy rs blankC u') (itC sy rs blankC (u + l + 1)) with
          | true =>
            have HEV : Hid (∀ n, Alive sy rs blankC n) := Lib.hid (fun n => (rep_alive (i := u + l + 1) (j := u') HAL1.out (by omega) ((sameConf_iff _ _).1 hsm) n).1)
            have HE0 : Hid (LenOk (itC sy rs blankC) N (l' + 1)) := Lib.hid (LenOk.found HI'.out (by omega) (by have h := (sameConf_iff _ _).1 hsm; rw [HUL.out] at h; exact h))
            clear hsm
            go_wp2_with fail
            go_ret
            exact ⟨l' + 1, by go_num, HE0.out, by omega, fun _ => HEV.out, below_drewN HZ6.out _⟩
          | false =>
            have HIn : Hid (BrInv (itC sy rs blankC) u' (u' + (l' + 1))) := Lib.hid (HI'.out.next (fun e => by
              have h := (sameConf_iff (itC sy rs blankC u') (itC sy rs blankC (u + l + 1))).2 (by rw [HUL.out]; exact e)
              rw [hsm] at h; cases h))
            clear hsm
            go_wp2_with fail
            go_roundw
            case rel => exact ⟨u', l' + 1, rfl, by go_num, congrArg (Value.int .i64) (by omega), by omega, by omega, HIn, by rw [show u' + (l' + 1) = u + l + 1 by omega]; exact HAL1, Lib.hid (HS6.out.drewN _), by rw [show u' + (l' + 1) = u + l + 1 by omega]; exact Lib.hid (HF6.out.drewN _), Lib.hid (below_drewN HZ6.out _)⟩
            case measure => simp [intOf]; omega
end Go.Proofs.YtdlojbabnelbdaaGreatDoor

/-
  Contract of the reference's l25FindCycle and FindCycle.
-/
namespace Go.Proofs.YtdlojbabnelbdaaGreatDoor
open Go.RowKit

theorem first_never {f : Nat → Conf} {N : Nat} (h : ∀ j i, j < i → i ≤ N → f j ≠ f i) : firstTo f (N + 1) = none :=
  firstTo_none (fun n hn => by
    cases hp : prevT f n with
    | none => rfl
    | some j => obtain ⟨h1, h2⟩ := prevT_some hp; exact absurd h2 (h j n h1 (by omega)))
theorem newPrf2_two {w wf : World} {a k x y : Int} {r : (Int × List Int) × Int} {L R : Option Addr} {c d : Nat} (hr : r = ((a, [x, y]), k)) (ho : Own wf w.heap.size 2 1 L 2 c [.int .i64 x, .int .i64 y]) (hz : Below w.heap.size w wf) : NewPrf2 w r (.returned (.tuple #[.agg #[.int .i64 a, .slice L 2 c, .slice R 0 d], .int .i64 k])) wf := by
  subst hr
  exact ⟨L, c, R, d, rfl, ho, hz⟩
set_option maxRecDepth 100000 in
set_option maxHeartbeats 8000000 in
theorem l25FindCycle_any (g : Nat) (sy st : Int) (A : Option Addr) (n k : Nat) (rs : List R3) (N : Nat) (w : World) (hm : MachAt w g sy st A n k) (hrs : S3 w A n rs) (hn : n ≤ 1048576) (hg : goodC sy st rs blankC) (hc : codeF sy st rs blankC (N : Int) = 0) (hN : N ≤ 20000) :
    Calls Tryz.prog 15 #[.pointer (some ⟨g, 0, none⟩), .int .i64 (N : Int)] w (NewPrf2 w (findCycF sy st rs (N : Int))) := by
  obtain ⟨W, hW_⟩ : ∃ W, W = w.alloc (.cells #[.int .i64 0, .slice none 0 0, .slice none 0 0] 29) := ⟨_, rfl⟩
  have b1 : Blk W w.heap.size 29 #[.int .i64 0, .slice none 0 0, .slice none 0 0] := by rw [hW_]; exact Blk.new w _ _
  have y0 : Below w.heap.size w W := by rw [hW_]; exact (Below.refl _ _).alloc (Nat.le_refl _) _
  have HW := Lib.hid hW_
  clear hW_
  have HC := Lib.hid hc
  clear hc
  go_enter Tryz.func15, Tryz.ntmps15
  go_wp2_with fail
  rw [← HW.out]
  refine (l25Blank_any _).mono ?_
  rintro e W1 ⟨L1, a1, R1, d1, rfl, _, _, _, z1⟩
  have y1 := y0.trans (z1.mono y0.size)
  have c1 := b1.below' z1
  go_wp2_with fail
  refine (l05Run_blank g sy st A n k rs _ _ _ _ N _ (hm.below y1) (hrs.below y1) hg hn (by omega)).mono ?_
  rintro e W2 ⟨hcase, z2⟩
  have y2 := y1.trans (z2.mono y1.size)
  have c2 := c1.below' z2
  rcases hcase with ⟨i, hi, L, a, R, d', rfl, _, _, _⟩ | ⟨⟨i, hi⟩, rfl⟩
  rotate_left
  · have HF := Lib.hid (findCycF_full HC.out hi)
    clear hi
    obtain ⟨W3, hW_⟩ : ∃ W_, W_ = W2.alloc (.cells #[.int .i64 0, .slice none 0 0, .slice none 0 0] 57) := ⟨_, rfl⟩
    have b3 : Blk W3 W2.heap.size 57 #[.int .i64 0, .slice none 0 0, .slice none 0 0] := by rw [hW_]; exact Blk.new W2 _ _
    have z3 : Below W2.heap.size W2 W3 := by rw [hW_]; exact (Below.refl _ _).alloc (Nat.le_refl _) _
    have HW3 := Lib.hid hW_
    clear hW_
    have y3 := y2.trans (z3.mono y2.size)
    have c3 := c2.below' z3
    have u0 : W3.cell? ⟨w.heap.size, 0, none⟩ = some (.int .i64 0) := c3.cell 0
    have u1 : W3.cell? ⟨w.heap.size, 1, none⟩ = some (.slice none 0 0) := c3.cell 1
    have u2 : W3.cell? ⟨w.heap.size, 2, none⟩ = some (.slice none 0 0) := c3.cell 2
    have f0 := c3.frozen 0
    have f1 := c3.frozen 1
    have f2 := c3.frozen 2
    go_upto_region 2 with fail
    rw [← HW3.out]
    go_wp2_with fail
    have d1 := conf_set c3 (.int .i64 0) (.slice none 0 0) (.slice none 0 0)
    exact bodyPost_ret (v := .tuple #[.agg #[.int .i64 0, .slice none 0 0, .slice none 0 0], .int .i64 5]) (by simp [results, Tryz.results15, go_sem, d1.cell 0, d1.cell 1, d1.cell 2]) rfl (newPrf2_zero HF.out (conf_below y3 (by omega) _ _ _))
  have HI := Lib.hid hi
  clear hi
  cases hh : haltC sy rs (itC sy rs blankC i) with
  | true =>
    have HF := Lib.hid (findCycF_halt HC.out HI.out hh)
    clear hh
    generalize itC sy rs blankC i = cf at *
    obtain ⟨W3, hW_⟩ : ∃ W_, W_ = W2.alloc (.cells #[.int .i64 cf.q, .slice L cf.xs.length a, .slice R cf.ys.length d'] 57) := ⟨_, rfl⟩
    have b3 : Blk W3 W2.heap.size 57 #[.int .i64 cf.q, .slice L cf.xs.length a, .slice R cf.ys.length d'] := by rw [hW_]; exact Blk.new W2 _ _
    have z3 : Below W2.heap.size W2 W3 := by rw [hW_]; exact (Below.refl _ _).alloc (Nat.le_refl _) _
    have HW3 := Lib.hid hW_
    clear hW_
    have y3 := y2.trans (z3.mono y2.size)
    have c3 := c2.below' z3
    have u0 : W3.cell? ⟨w.heap.size, 0, none⟩ = some (.int .i64 0) := c3.cell 0
    have u1 : W3.cell? ⟨w.heap.size, 1, none⟩ = some (.slice none 0 0) := c3.cell 1
    have u2 : W3.cell? ⟨w.heap.size, 2, none⟩ = some (.slice none 0 0) := c3.cell 2
    have f0 := c3.frozen 0
    have f1 := c3.frozen 1
    have f2 := c3.frozen 2
    go_upto_region 2 with fail
    rw [← HW3.out]
    go_wp2_with fail
    have d1 := conf_set c3 (.int .i64 0) (.slice none 0 0) (.slice none 0 0)
    exact bodyPost_ret (v := .tuple #[.agg #[.int .i64 0, .slice none 0 0, .slice none 0 0], .int .i64 3]) (by simp [results, Tryz.results15, go_sem, d1.cell 0, d1.cell 1, d1.cell 2]) rfl (newPrf2_zero HF.out (conf_below y3 (by omega) _ _ _))
  | false =>
    obtain rfl : i = N := by
      rcases HI.out.2.2 with h | h
      · exact h
      · rw [hh] at h; cases h
    have HH := Lib.hid hh
    have HAN := Lib.hid HI.out.2.1
    clear hh
    obtain ⟨cf, hcf⟩ : ∃ cf, cf = itC sy rs blankC i := ⟨_, rfl⟩
    rw [← hcf]
    clear hcf
    obtain ⟨W3, hW_⟩ : ∃ W_, W_ = W2.alloc (.cells #[.int .i64 cf.q, .slice L cf.xs.length a, .slice R cf.ys.length d'] 57) := ⟨_, rfl⟩
    have b3 : Blk W3 W2.heap.size 57 #[.int .i64 cf.q, .slice L cf.xs.length a, .slice R cf.ys.length d'] := by rw [hW_]; exact Blk.new W2 _ _
    have z3 : Below W2.heap.size W2 W3 := by rw [hW_]; exact (Below.refl _ _).alloc (Nat.le_refl _) _
    have HW3 := Lib.hid hW_
    clear hW_
    have HY3 := Lib.hid (y2.trans (z3.mono y2.size))
    have HC3 := Lib.hid (c2.below' z3)
    have HLEN := Lib.hid (by
      have h := l25Length_any g sy st A n k rs i (4 * i + 4) W3 (hm.below HY3.out) (hrs.below HY3.out) hg hn hN HAN.out (Nat.le_refl _) (Nat.le_refl _)
      rw [show ((4 * i + 4 : Nat) : Int) = 4 * (i : Int) + 4 by omega] at h
      exact h : Calls Tryz.prog 36 #[.pointer (some ⟨g, 0, none⟩), .int .i64 (4 * (i : Int) + 4)] W3 (LenP W3 sy rs i))
    clear y0 y1 y2 z1 z2 z3 c1 c2 b1 b3
    go_upto_region 6 with fail
    rw [← HW3.out]
    clear HW3
    go_wp2_with fail
    refine HLEN.out.mono ?_
    rintro e W4 ⟨l, rfl, hlo, hl4, hev, z4⟩
    have HLO := Lib.hid hlo
    have HEV := Lib.hid hev
    have HY4 := Lib.hid (HY3.out.trans (z4.mono HY3.out.size))
    have c4 := HC3.out.below' z4
    have HC4 := Lib.hid c4
    have hw4 : w.heap.size < W4.heap.size := c4.lt
    clear hlo hev z4 HLEN HC3 HY3
    by_cases hl0 : l = 0
    · have q1 : ((l : Int) == 0) = true := by rw [hl0]; rfl
      have HF := Lib.hid (findCycF_none HC.out HI.out HH.out (first_never (by
        rcases HLO.out with h | h
        · exact h.2
        · omega)))
      have u0 : W4.cell? ⟨w.heap.size, 0, none⟩ = some (.int .i64 0) := c4.cell 0
      have u1 : W4.cell? ⟨w.heap.size, 1, none⟩ = some (.slice none 0 0) := c4.cell 1
      have u2 : W4.cell? ⟨w.heap.size, 2, none⟩ = some (.slice none 0 0) := c4.cell 2
      have f0 := c4.frozen 0
      have f1 := c4.frozen 1
      have f2 := c4.frozen 2
      clear hl0
      go_wp2_with fail
      have d1 := conf_set HC4.out (.int .i64 0) (.slice none 0 0) (.slice none 0 0)
      exact bodyPost_ret (v := .tuple #[.agg #[.int .i64 0, .slice none 0 0, .slice none 0 0], .int .i64 6]) (by simp [results, Tryz.results15, go_sem, d1.cell 0, d1.cell 1, d1.cell 2]) rfl (newPrf2_zero HF.out (conf_below HY4.out (Nat.le_refl _) _ _ _))
    have q1 : ((l : Int) == 0) = false := by simpa using hl0
    obtain ⟨s, hs4, hs1, hs2⟩ : ∃ s, s ≤ 4 * i + 4 ∧ itC sy rs blankC s = itC sy rs blankC (s + l) ∧ ∀ d, 0 < d → d < l → itC sy rs blankC s ≠ itC sy rs blankC (s + d) := by
      rcases HLO.out with h | h
      · exact absurd h.1 hl0
      · exact h.2
    have HS1 := Lib.hid hs1
    have HS2 := Lib.hid hs2
    have HAL := Lib.hid (HEV.out (by omega))
    clear hs1 hs2 c4 HLO HEV
    go_wp2_with fail
    refine (l25Blank_any _).mono ?_
    rintro e W5 ⟨L5, a5, R5, d5, rfl, oL5, oR5, hap5, z5⟩
    simp only [List.length_nil] at oL5 oR5 ⊢
    obtain ⟨W6, hW_⟩ : ∃ W_, W_ = W5.alloc (.cells #[.int .i64 0, .slice L5 0 a5, .slice R5 0 d5] 57) := ⟨_, rfl⟩
    have b6 : Blk W6 W5.heap.size 57 #[.int .i64 0, .slice L5 0 a5, .slice R5 0 d5] := by rw [hW_]; exact Blk.new W5 _ _
    have z6 : Below W5.heap.size W5 W6 := by rw [hW_]; exact (Below.refl _ _).alloc (Nat.le_refl _) _
    have HW6 := Lib.hid hW_
    clear hW_
    have HCA : Hid (ConfC W6 W4.heap.size W5.heap.size blankC) := Lib.hid ⟨L5, a5, R5, d5, b6, oL5.below z6, oR5.below z6, hap5⟩
    have z56 := z5.trans (z6.mono z5.size)
    have HY6 := Lib.hid (HY4.out.trans (z56.mono HY4.out.size))
    have HC6 := Lib.hid (HC4.out.below' z56)
    have HZ6 := Lib.hid z56
    have h45 : W4.heap.size ≤ W5.heap.size := z5.size
    clear oL5 oR5 hap5 z5 z6 b6 z56
    obtain ⟨ga, hga⟩ : ∃ ga, ga = W5.heap.size := ⟨_, rfl⟩
    rw [← hga] at HCA
    have HGE := Lib.hid hga
    have hga4 : W4.heap.size ≤ ga := by omega
    have hgal : ga < W6.heap.size := by
      obtain ⟨_, _, _, _, h, _⟩ := HCA.out
      exact Blk.lt h
    clear hga
    go_wp2_with fail
    rw [← HW6.out]
    clear HW6
    refine (l25Blank_any _).mono ?_
    rintro e W7 ⟨L7, a7, R7, d7, rfl, _, _, _, z7⟩
    simp only [List.length_nil]
    have HY7 := Lib.hid (HY6.out.trans (z7.mono HY6.out.size))
    have HAF := Lib.hid (l25After_blanki g sy st A n k rs L7 a7 R7 d7 (l : Int) W7 (hm.below HY7.out) (hrs.below HY7.out) hg hn (by omega) (by omega))
    go_wp2_with fail
    refine HAF.out.mono ?_
    rintro e W8 ⟨v, x8, c8, L8, a8, R8, d8, rfl, hv1, hv2, oL8, oR8, hap8, z8⟩
    rw [Int.toNat_natCast] at hv1 hv2
    obtain rfl : v = true := by
      cases v
      · exact absurd (HAL.out l) (hv2 rfl)
      · rfl
    obtain rfl := (hv1 rfl).2
    obtain ⟨W9, hW_⟩ : ∃ W_, W_ = W8.alloc (.cells #[.int .i64 (itC sy rs blankC l).q, .slice L8 (itC sy rs blankC l).xs.length a8, .slice R8 (itC sy rs blankC l).ys.length d8] 57) := ⟨_, rfl⟩
    have b9 : Blk W9 W8.heap.size 57 #[.int .i64 (itC sy rs blankC l).q, .slice L8 (itC sy rs blankC l).xs.length a8, .slice R8 (itC sy rs blankC l).ys.length d8] := by rw [hW_]; exact Blk.new W8 _ _
    have z9 : Below W8.heap.size W8 W9 := by rw [hW_]; exact (Below.refl _ _).alloc (Nat.le_refl _) _
    have HW9 := Lib.hid hW_
    clear hW_
    have h47 : W4.heap.size ≤ W7.heap.size := by have := HZ6.out.size; have := z7.size; omega
    have z79 := z7.trans ((z8.trans (z9.mono z8.size)).mono z7.size)
    have HCB : Hid (ConfC W9 W4.heap.size W8.heap.size (itC sy rs blankC (0 + l))) := Lib.hid (by rw [Nat.zero_add]; exact ⟨L8, a8, R8, d8, b9, (oL8.below z9).mono h47, (oR8.below z9).mono h47, hap8⟩)
    have HCA9 : Hid (ConfC W9 W4.heap.size ga (itC sy rs blankC 0)) := Lib.hid (HCA.out.below z79)
    have HZ9 := Lib.hid (HZ6.out.trans (z79.mono HZ6.out.size))
    have h68 : W6.heap.size ≤ W8.heap.size := by have := z7.size; have := z8.size; omega
    obtain ⟨gb, hgb⟩ : ∃ gb, gb = W8.heap.size := ⟨_, rfl⟩
    have hab : ga ≠ gb := by omega
    have hgb4 : W4.heap.size ≤ gb := by omega
    rw [← hgb] at HCB
    go_upto_region 11 with fail
    rw [← HW9.out, ← hgb, ← HGE.out]
    clear HW9 hgb HAF hv1 hv2 oL8 oR8 hap8 z8 b9 z7 z9 z79 HCA h45 h47 hgal h68 HY6 HY7
    go_wp2_with fail
    go_loopw [15] (fun s15 wr => ∃ j : Nat, s15 = .int .i64 (j : Int) ∧ j ≤ s ∧ Hid (∀ d, d < j → itC sy rs blankC d ≠ itC sy rs blankC (d + l)) ∧ Hid (ConfC wr W4.heap.size ga (itC sy rs blankC j)) ∧ Hid (ConfC wr W4.heap.size gb (itC sy rs blankC (j + l))) ∧ Hid (Below W4.heap.size W4 wr)) (fun s15 _ => s - (intOf s15).toNat)
    case atStart => exact ⟨0, rfl, by omega, Lib.hid (fun d h => by omega), HCA9, HCB, HZ9⟩
    case round =>
      obtain ⟨j, rfl, hjs, HD, HA, HB, HZ⟩ := hrel
      clear HCA9 HCB HZ9
      have HGA := Lib.hid ((HAL.out j).good hg)
      have HGB := Lib.hid ((HAL.out (j + l)).good hg)
      have HSC := Lib.hid (sameConf_c HA.out HB.out (by have := (conf_parts HGA.out).2.2.2.2.2.2.2.1; omega) (by have := (conf_parts HGA.out).2.2.2.2.2.2.2.2.1; omega))
      cases hsm : sameConfB (itC sy rs blankC j) (itC sy rs blankC (j + l)) with
      | true =>
        rw [hsm] at HSC
        have HFI : Hid (firstTo (itC sy rs blankC) (i + 1) = if j + l ≤ i then some (j, l) else none) := Lib.hid (rep_first (itC_step sy rs blankC) (by omega) HS1.out HS2.out ((sameConf_iff _ _).1 hsm) HD.out)
        clear hsm
        go_wp2_with fail
        refine HSC.out.mono ?_
        rintro e Wx ⟨rfl, nq, rfl⟩
        have HZx := Lib.hid (below_drewN HZ.out nq)
        have hZw := HY4.out.trans (HZx.out.mono HY4.out.size)
        have cP := HC4.out.below' HZx.out
        have HPC := Lib.hid cP
        have HZW := Lib.hid hZw
        clear hZw HSC HA HB HZ
        by_cases hle : j + l ≤ i
        · have i1 : ¬ (i : Int) < (j : Int) + (l : Int) := by omega
          have HF := Lib.hid (findCycF_some HC.out HI.out HH.out (by rw [HFI.out, if_pos hle]))
          clear cP hle
          obtain ⟨V, hV⟩ : ∃ V, V = wr.drewN nq := ⟨_, rfl⟩
          rw [← hV] at HZx HPC HZW ⊢
          clear hV
          obtain ⟨V1, hW_⟩ : ∃ W_, W_ = V.alloc (.cells #[.int .i64 (j : Int), .int .i64 (l : Int)] 2) := ⟨_, rfl⟩
          have b1 : Blk V1 V.heap.size 2 #[.int .i64 (j : Int), .int .i64 (l : Int)] := by rw [hW_]; exact Blk.new V _ _
          have z1 : Below V.heap.size V V1 := by rw [hW_]; exact (Below.refl _ _).alloc (Nat.le_refl _) _
          have HV1 := Lib.hid hW_
          clear hW_
          have ol : Own V1 V.heap.size 2 1 (some ⟨V.heap.size, 0, none⟩) 2 2 [.int .i64 (j : Int), .int .i64 (l : Int)] := by rw [HV1.out]; exact Own.lit V #[.int .i64 (j : Int), .int .i64 (l : Int)] 2 2 1 V.heap.size (by simp) (by unfold maxLen; omega) (Nat.le_refl _)
          have HOL := Lib.hid ol
          have HMD := Lib.hid (l25Made_any 2 (some ⟨V.heap.size, 0, none⟩) 2 2 V1)
          have HZ1 := Lib.hid (HZW.out.trans (z1.mono HZW.out.size))
          have HP1 := Lib.hid (HPC.out.below' z1)
          have hwV : w.heap.size < V.heap.size := HPC.out.lt
          clear ol z1 b1
          go_wp2_with fail
          rw [← HV1.out]
          clear HV1
          refine HMD.out.mono ?_
          rintro e V2 ⟨R5, d5, rfl, z5⟩
          have hZ2 := HZ1.out.trans (z5.mono HZ1.out.size)
          have c5 := HP1.out.below' z5
          have o5 := HOL.out.below z5
          have u0 : V2.cell? ⟨w.heap.size, 0, none⟩ = some (.int .i64 0) := c5.cell 0
          have u1 : V2.cell? ⟨w.heap.size, 1, none⟩ = some (.slice none 0 0) := c5.cell 1
          have u2 : V2.cell? ⟨w.heap.size, 2, none⟩ = some (.slice none 0 0) := c5.cell 2
          have f0 := c5.frozen 0
          have f1 := c5.frozen 1
          have f2 := c5.frozen 2
          go_wp2_with fail
          have d1 := conf_set c5 (.int .i64 2) (.slice (some ⟨V.heap.size, 0, none⟩) 2 2) (.slice R5 0 d5)
          exact bodyPost_ret (v := .tuple #[.agg #[.int .i64 2, .slice (some ⟨V.heap.size, 0, none⟩) 2 2, .slice R5 0 d5], .int .i64 0]) (by simp [results, Tryz.results15, go_sem, d1.cell 0, d1.cell 1, d1.cell 2]) rfl
            (newPrf2_two HF.out ((conf_far o5 (by omega) _ _ _).mono (by omega)) (conf_below hZ2 (Nat.le_refl _) _ _ _))
        · have i1 : (i : Int) < (j : Int) + (l : Int) := by omega
          have HF := Lib.hid (findCycF_none HC.out HI.out HH.out (by rw [HFI.out, if_neg hle]))
          clear cP hle
          obtain ⟨V, hV⟩ : ∃ V, V = wr.drewN nq := ⟨_, rfl⟩
          rw [← hV] at HZx HPC HZW ⊢
          clear hV
          have cP := HPC.out
          have u0 : V.cell? ⟨w.heap.size, 0, none⟩ = some (.int .i64 0) := cP.cell 0
          have u1 : V.cell? ⟨w.heap.size, 1, none⟩ = some (.slice none 0 0) := cP.cell 1
          have u2 : V.cell? ⟨w.heap.size, 2, none⟩ = some (.slice none 0 0) := cP.cell 2
          have f0 := cP.frozen 0
          have f1 := cP.frozen 1
          have f2 := cP.frozen 2
          go_wp2_with fail
          have d1 := conf_set HPC.out (.int .i64 0) (.slice none 0 0) (.slice none 0 0)
          exact bodyPost_ret (v := .tuple #[.agg #[.int .i64 0, .slice none 0 0, .slice none 0 0], .int .i64 6]) (by simp [results, Tryz.results15, go_sem, d1.cell 0, d1.cell 1, d1.cell 2]) rfl (newPrf2_zero HF.out (conf_below HZW.out (Nat.le_refl _) _ _ _))
      | false =>
        rw [hsm] at HSC
        have HNE : Hid (itC sy rs blankC j ≠ itC sy rs blankC (j + l)) := Lib.hid (fun e => by rw [(sameConf_iff _ _).2 e] at hsm; cases hsm)
        have hjs' : j < s := by
          by_cases e : j = s
          · rw [e] at HNE; exact absurd HS1.out HNE.out
          · omega
        clear hsm
        go_wp2_with fail
        refine HSC.out.mono ?_
        rintro e Wx ⟨rfl, nq, rfl⟩
        go_wp2_with fail
        obtain ⟨V0, hV0⟩ : ∃ V0, V0 = wr.drewN nq := ⟨_, rfl⟩
        rw [← hV0]
        have HA0 : Hid (ConfC V0 W4.heap.size ga (itC sy rs blankC j)) := Lib.hid (by rw [hV0]; exact HA.out.drewN _)
        have HB0 : Hid (ConfC V0 W4.heap.size gb (itC sy rs blankC (j + l))) := Lib.hid (by rw [hV0]; exact HB.out.drewN _)
        have HZ0 : Hid (Below W4.heap.size W4 V0) := Lib.hid (by rw [hV0]; exact below_drewN HZ.out _)
        have HYV : Hid (∀ W, Below W4.heap.size W4 W → Below w.heap.size w W) := Lib.hid (fun W z => HY4.out.trans (z.mono HY4.out.size))
        have HST1 := Lib.hid (l05Step_c (hm.below (HYV.out _ HZ0.out)) (hrs.below (HYV.out _ HZ0.out)) HA0.out HGA.out hn)
        clear hV0 HA HB HZ HSC
        refine HST1.out.mono ?_
        rintro e V1 ⟨L1, a1, R1, d1, rfl, oL1, oR1, hap1, z1⟩
        obtain ⟨V2, hW_⟩ : ∃ W_, W_ = V1.alloc (.cells #[.int .i64 (nextC sy rs (itC sy rs blankC j)).q, .slice L1 (nextC sy rs (itC sy rs blankC j)).xs.length a1, .slice R1 (nextC sy rs (itC sy rs blankC j)).ys.length d1] 57) := ⟨_, rfl⟩
        have b2 : Blk V2 V1.heap.size 57 #[.int .i64 (nextC sy rs (itC sy rs blankC j)).q, .slice L1 (nextC sy rs (itC sy rs blankC j)).xs.length a1, .slice R1 (nextC sy rs (itC sy rs blankC j)).ys.length d1] := by rw [hW_]; exact Blk.new V1 _ _
        have z2 : Below V1.heap.size V1 V2 := by rw [hW_]; exact (Below.refl _ _).alloc (Nat.le_refl _) _
        have HV2 := Lib.hid hW_
        clear hW_
        have z12 := z1.trans (z2.mono z1.size)
        have HA2 := Lib.hid (HA0.out.below z12)
        have HB2 := Lib.hid (HB0.out.below z12)
        have HZ2 := Lib.hid (HZ0.out.trans (z12.mono HZ0.out.size))
        have HOL1 := Lib.hid ((oL1.below z2).mono HZ0.out.size)
        have HOR1 := Lib.hid ((oR1.below z2).mono HZ0.out.size)
        have HAP1 := Lib.hid hap1
        have HBX2 := Lib.hid b2
        have hgaV : ga < V1.heap.size := by
          obtain ⟨_, _, _, _, h, _⟩ := HA0.out.below z1
          exact Blk.lt h
        have hgbV : gb < V1.heap.size := by
          obtain ⟨_, _, _, _, h, _⟩ := HB0.out.below z1
          exact Blk.lt h
        have HST2 := Lib.hid (l05Step_c (hm.below (HYV.out _ HZ2.out)) (hrs.below (HYV.out _ HZ2.out)) HB2.out HGB.out hn)
        clear oL1 oR1 hap1 z1 z2 b2 z12 HST1 HA0 HB0 HZ0
        go_upto_region 14 with fail
        rw [← HV2.out]
        clear HV2
        go_wp2_with fail
        refine HST2.out.mono ?_
        rintro e V3 ⟨L3, a3, R3', d3, rfl, oL3, oR3, hap3, z3⟩
        obtain ⟨V4, hW_⟩ : ∃ W_, W_ = V3.alloc (.cells #[.int .i64 (nextC sy rs (itC sy rs blankC (j + l))).q, .slice L3 (nextC sy rs (itC sy rs blankC (j + l))).xs.length a3, .slice R3' (nextC sy rs (itC sy rs blankC (j + l))).ys.length d3] 57) := ⟨_, rfl⟩
        have b4 : Blk V4 V3.heap.size 57 #[.int .i64 (nextC sy rs (itC sy rs blankC (j + l))).q, .slice L3 (nextC sy rs (itC sy rs blankC (j + l))).xs.length a3, .slice R3' (nextC sy rs (itC sy rs blankC (j + l))).ys.length d3] := by rw [hW_]; exact Blk.new V3 _ _
        have z4 : Below V3.heap.size V3 V4 := by rw [hW_]; exact (Below.refl _ _).alloc (Nat.le_refl _) _
        have HV4 := Lib.hid hW_
        clear hW_
        have z34 := z3.trans (z4.mono z3.size)
        have hA4 := HA2.out.below z34
        have hB4 := HB2.out.below z34
        have HZ4 := Lib.hid (HZ2.out.trans (z34.mono HZ2.out.size))
        have HOL3 := Lib.hid ((oL3.below z4).mono HZ2.out.size)
        have HOR3 := Lib.hid ((oR3.below z4).mono HZ2.out.size)
        have HOL14 := Lib.hid (HOL1.out.below z34)
        have HOR14 := Lib.hid (HOR1.out.below z34)
        have HAP3 := Lib.hid hap3
        have hX2 := HBX2.out.below' z34
        have h13 : V1.heap.size < V3.heap.size := by have := HBX2.out.lt; have := z3.size; omega
        obtain ⟨La, aa, Ra, da, hAb, _, _, _⟩ := id hA4
        obtain ⟨Lb, ab, Rb, db, hBb, _, _, _⟩ := id hB4
        go_upto_region 15 with fail
        rw [← HV4.out]
        clear HV4 oL3 oR3 hap3 z3 z4 z34 HST2 HA2 HB2 HZ2 HOL1 HOR1 HBX2
        have x0 : V4.cell? ⟨V1.heap.size, 0, none⟩ = some (.int .i64 (nextC sy rs (itC sy rs blankC j)).q) := hX2.cell 0
        have x1 : V4.cell? ⟨V1.heap.size, 1, none⟩ = some (.slice L1 (nextC sy rs (itC sy rs blankC j)).xs.length a1) := hX2.cell 1
        have x2 : V4.cell? ⟨V1.heap.size, 2, none⟩ = some (.slice R1 (nextC sy rs (itC sy rs blankC j)).ys.length d1) := hX2.cell 2
        have u0 : V4.cell? ⟨ga, 0, none⟩ = some (.int .i64 (itC sy rs blankC j).q) := hAb.cell 0
        have u1 : V4.cell? ⟨ga, 1, none⟩ = some (.slice La (itC sy rs blankC j).xs.length aa) := hAb.cell 1
        have u2 : V4.cell? ⟨ga, 2, none⟩ = some (.slice Ra (itC sy rs blankC j).ys.length da) := hAb.cell 2
        have f0 := hAb.frozen 0
        have f1 := hAb.frozen 1
        have f2 := hAb.frozen 2
        obtain ⟨V5, hV5⟩ : ∃ V5, V5 = ((V4.setCell ⟨ga, 0, none⟩ (.int .i64 (nextC sy rs (itC sy rs blankC j)).q)).setCell ⟨ga, 1, none⟩ (.slice L1 (nextC sy rs (itC sy rs blankC j)).xs.length a1)).setCell ⟨ga, 2, none⟩ (.slice R1 (nextC sy rs (itC sy rs blankC j)).ys.length d1) := ⟨_, rfl⟩
        have HA5 : Hid (ConfC V5 W4.heap.size ga (itC sy rs blankC (j + 1))) := Lib.hid (by rw [hV5]; exact ConfC.set3 (c := nextC sy rs (itC sy rs blankC j)) rfl hAb HOL14.out HOR14.out HAP1.out)
        have hB5 : ConfC V5 W4.heap.size gb (itC sy rs blankC (j + l)) := by rw [hV5]; exact hB4.off hAb (fun e => hab e.symm) _ _ _
        have HZ5 : Hid (Below W4.heap.size W4 V5) := Lib.hid (by rw [hV5]; exact conf_below HZ4.out hga4 _ _ _)
        have far : ∀ {A' : Option Addr} {n' c' : Nat} {xs : List Value}, Own V4 W4.heap.size 2 1 A' n' c' xs → Own V5 W4.heap.size 2 1 A' n' c' xs := fun h => by
          have hne := hAb.apt h (by decide)
          rw [hV5]
          exact ((h.far (p := ⟨ga, 0, none⟩) hne _).far (p := ⟨ga, 1, none⟩) hne _).far (p := ⟨ga, 2, none⟩) hne _
        have HOL5 := Lib.hid (far HOL3.out)
        have HOR5 := Lib.hid (far HOR3.out)
        have n3 : ¬ V3.heap.size = ga := by omega
        have b5 : Blk V5 V3.heap.size 57 #[.int .i64 (nextC sy rs (itC sy rs blankC (j + l))).q, .slice L3 (nextC sy rs (itC sy rs blankC (j + l))).xs.length a3, .slice R3' (nextC sy rs (itC sy rs blankC (j + l))).ys.length d3] := by
          rw [hV5]; exact ((b4.far (p := ⟨ga, 0, none⟩) n3 _).far (p := ⟨ga, 1, none⟩) n3 _).far (p := ⟨ga, 2, none⟩) n3 _
        obtain ⟨Lc, ac, Rc, dc, hBc, _, _, _⟩ := id hB5
        have HV5 := Lib.hid hV5
        clear hV5 hA4 hB4 hAb hBb hX2 b4 far
        go_upto_region 16 with fail
        rw [← HV5.out]
        clear HV5 x0 x1 x2 u0 u1 u2 f0 f1 f2
        have x0 : V5.cell? ⟨V3.heap.size, 0, none⟩ = some (.int .i64 (nextC sy rs (itC sy rs blankC (j + l))).q) := b5.cell 0
        have x1 : V5.cell? ⟨V3.heap.size, 1, none⟩ = some (.slice L3 (nextC sy rs (itC sy rs blankC (j + l))).xs.length a3) := b5.cell 1
        have x2 : V5.cell? ⟨V3.heap.size, 2, none⟩ = some (.slice R3' (nextC sy rs (itC sy rs blankC (j + l))).ys.length d3) := b5.cell 2
        have u0 : V5.cell? ⟨gb, 0, none⟩ = some (.int .i64 (itC sy rs blankC (j + l)).q) := hBc.cell 0
        have u1 : V5.cell? ⟨gb, 1, none⟩ = some (.slice Lc (itC sy rs blankC (j + l)).xs.length ac) := hBc.cell 1
        have u2 : V5.cell? ⟨gb, 2, none⟩ = some (.slice Rc (itC sy rs blankC (j + l)).ys.length dc) := hBc.cell 2
        have f0 := hBc.frozen 0
        have f1 := hBc.frozen 1
        have f2 := hBc.frozen 2
        have HB6 : Hid (ConfC (((V5.setCell ⟨gb, 0, none⟩ (.int .i64 (nextC sy rs (itC sy rs blankC (j + l))).q)).setCell ⟨gb, 1, none⟩ (.slice L3 (nextC sy rs (itC sy rs blankC (j + l))).xs.length a3)).setCell ⟨gb, 2, none⟩ (.slice R3' (nextC sy rs (itC sy rs blankC (j + l))).ys.length d3)) W4.heap.size gb (itC sy rs blankC (j + 1 + l))) := Lib.hid (by
          rw [show j + 1 + l = j + l + 1 by omega]
          exact ConfC.set3 (c := nextC sy rs (itC sy rs blankC (j + l))) rfl hBc HOL5.out HOR5.out HAP3.out)
        have HA6 := Lib.hid (HA5.out.off hBc hab (.int .i64 (nextC sy rs (itC sy rs blankC (j + l))).q) (.slice L3 (nextC sy rs (itC sy rs blankC (j + l))).xs.length a3) (.slice R3' (nextC sy rs (itC sy rs blankC (j + l))).ys.length d3))
        have HZ6 := Lib.hid (conf_below HZ5.out hgb4 (.int .i64 (nextC sy rs (itC sy rs blankC (j + l))).q) (.slice L3 (nextC sy rs (itC sy rs blankC (j + l))).xs.length a3) (.slice R3' (nextC sy rs (itC sy rs blankC (j + l))).ys.length d3))
        have HDn : Hid (∀ d, d < j + 1 → itC sy rs blankC d ≠ itC sy rs blankC (d + l)) := Lib.hid (fun d hd => by
          by_cases e : d = j
          · rw [e]; exact HNE.out
          · exact HD.out d (by omega))
        clear hBc hB5 b5
        go_wp2_with fail
        go_roundw
        case rel => exact ⟨j + 1, by go_num, by omega, HDn, HA6, HB6, HZ6⟩
        case measure => simp [intOf]; omega
set_option maxHeartbeats 4000000 in
theorem specFindCycle_any (sy st : Int) (A : Option Addr) (n k : Nat) (rs : List R3) (b : Int) (w : World) (hr : S3 w A n rs) (hn : n ≤ 1048576) :
    Calls Tryz.prog 5 #[.agg #[.int .i64 sy, .int .i64 st, .slice A n k], .int .i64 b] w (NewPrf2 w (findCycF sy st rs b)) := by
  obtain ⟨W, hW_⟩ : ∃ W, W = (w.alloc (.cells #[.int .i64 sy, .int .i64 st, .slice A n k] 34)).alloc (.cells #[.int .i64 0, .slice none 0 0, .slice none 0 0] 29) := ⟨_, rfl⟩
  have s_1 : (w.alloc (.cells #[.int .i64 sy, .int .i64 st, .slice A n k] 34)).heap.size = w.heap.size + 1 := by simp
  have b0 : Blk W w.heap.size 34 #[.int .i64 sy, .int .i64 st, .slice A n k] := by rw [hW_]; exact (Blk.new w _ _).alloc _
  have b1 : Blk W (w.heap.size + 1) 29 #[.int .i64 0, .slice none 0 0, .slice none 0 0] := by rw [hW_, ← s_1]; exact Blk.new _ _ _
  have y0 : Below w.heap.size w W := by rw [hW_]; exact ((Below.refl _ _).alloc (Nat.le_refl _) _).alloc (by simp) _
  have HW := Lib.hid hW_
  clear hW_ s_1
  have hM := b0.machAt
  go_enter Tryz.func5, Tryz.ntmps5
  go_wp2_with fail
  rw [← HW.out]
  refine (l25Ask_any _ _ _ _ _ _ rs _ _ hM (hr.below y0) hn).mono ?_
  rintro e W1 ⟨rfl, z1⟩
  have y1 := y0.trans (z1.mono y0.size)
  have c1 := b1.below' z1
  have hM1 := hM.below z1
  have u0 : W1.cell? ⟨(w.heap.size + 1), 0, none⟩ = some (.int .i64 0) := c1.cell 0
  have u1 : W1.cell? ⟨(w.heap.size + 1), 1, none⟩ = some (.slice none 0 0) := c1.cell 1
  have u2 : W1.cell? ⟨(w.heap.size + 1), 2, none⟩ = some (.slice none 0 0) := c1.cell 2
  have f0 := c1.frozen 0
  have f1 := c1.frozen 1
  have f2 := c1.frozen 2
  by_cases hc : codeF sy st rs blankC b = 0
  rotate_left
  · have HF := Lib.hid (findCycF_code hc)
    go_wp2_with fail
    have d1 := conf_set c1 (.int .i64 0) (.slice none 0 0) (.slice none 0 0)
    exact bodyPost_ret (v := .tuple #[.agg #[.int .i64 0, .slice none 0 0, .slice none 0 0], .int .i64 (codeF sy st rs blankC b)]) (by simp [results, Tryz.results5, go_sem, d1.cell 0, d1.cell 1, d1.cell 2]) rfl (newPrf2_zero HF.out (conf_below y1 (by omega) _ _ _))
  obtain ⟨hg, hb1, hb2⟩ := codeF_zero hc
  obtain ⟨N, rfl⟩ : ∃ N : Nat, b = (N : Int) := ⟨b.toNat, by omega⟩
  have HC := Lib.hid hc
  rw [hc]
  clear hc u0 u1 u2 f0 f1 f2
  go_wp2_with fail
  refine (l25FindCycle_any _ sy st A n k rs N _ hM1 (hr.below y1) hn hg HC.out (by omega)).mono ?_
  rintro e W2 ⟨L2, a2, R2, d2, rfl, o2, z2⟩
  generalize findCycF sy st rs (N : Int) = res at *
  have y2 := y1.trans (z2.mono y1.size)
  have c2 := c1.below' z2
  have hlt : w.heap.size + 1 < W1.heap.size := c1.lt
  have u0 : W2.cell? ⟨(w.heap.size + 1), 0, none⟩ = some (.int .i64 0) := c2.cell 0
  have u1 : W2.cell? ⟨(w.heap.size + 1), 1, none⟩ = some (.slice none 0 0) := c2.cell 1
  have u2 : W2.cell? ⟨(w.heap.size + 1), 2, none⟩ = some (.slice none 0 0) := c2.cell 2
  have f0 := c2.frozen 0
  have f1 := c2.frozen 1
  have f2 := c2.frozen 2
  go_wp2_with fail
  have d1 := conf_set c2 (.int .i64 res.1.1) (.slice L2 res.1.2.length a2) (.slice R2 0 d2)
  exact bodyPost_ret (v := .tuple #[.agg #[.int .i64 res.1.1, .slice L2 res.1.2.length a2, .slice R2 0 d2], .int .i64 res.2]) (by simp [results, Tryz.results5, go_sem, d1.cell 0, d1.cell 1, d1.cell 2]) rfl ⟨L2, a2, R2, d2, rfl, (conf_far o2 (by omega) _ _ _).mono (by omega), conf_below y2 (by omega) _ _ _⟩
end Go.Proofs.YtdlojbabnelbdaaGreatDoor
