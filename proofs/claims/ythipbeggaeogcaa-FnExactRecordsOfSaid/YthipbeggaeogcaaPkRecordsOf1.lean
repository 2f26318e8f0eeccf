/-
  Marks that are read again, for [][]int64; owned rows behind other marks.
-/
import Derived.Test.YthipbeggaeogcaaPkRecordsOf0
import Derived.Test.YthipbeggaeogcaaQuickC
import Derived.Test.YthipbeggaeogcaaWords
import Derived.Test.YthipbeggaeogcaaMachV
namespace Go.Proofs.Ythipbeggaeogcaa
open Go.RowKit

theorem OII.blk_ge {w : World} {lo : Nat} {e2 e1 : TypeId} {A : Option Addr} {n c : Nat} {ts : List Sl} (h : OII w lo e2 e1 A n c ts) : ∀ b, blk A = some b → lo ≤ b := h.1.blk_ge
theorem OII.mono {w : World} {lo lo' : Nat} {e2 e1 : TypeId} {A : Option Addr} {n c : Nat} {ts : List Sl} (h : OII w lo e2 e1 A n c ts) (hl : lo' ≤ lo) : OII w lo' e2 e1 A n c ts := ⟨h.1.mono hl, fun t ht => (h.2.1 t ht).mono hl, h.2.2⟩
theorem OII.alloc {w : World} {lo : Nat} {e2 e1 : TypeId} {A : Option Addr} {n c : Nat} {ts : List Sl} (h : OII w lo e2 e1 A n c ts) (o : Obj) : OII (w.alloc o) lo e2 e1 A n c ts := ⟨h.1.alloc o, fun t ht => (h.2.1 t ht).alloc o, h.2.2⟩
theorem OII.mkf_far {T : List TypeId} {w w' : World} {l hh lo : Nat} {e2 e1 : TypeId} {A : Option Addr} {n c : Nat} {ts : List Sl} (h : OII w lo e2 e1 A n c ts) (hf : MkF T l hh w w') (hd : ∀ b, lo ≤ b → b < l ∨ hh ≤ b) : OII w' lo e2 e1 A n c ts :=
  ⟨h.1.mkf_far hf (fun b hb => hd b (h.1.blk_ge b hb)), fun t ht => (h.2.1 t ht).mkf_far hf (fun b hb => hd b ((h.2.1 t ht).blk_ge b hb)), h.2.2⟩
theorem OII.mkf_below {T : List TypeId} {w0 w w' : World} {l hh lo : Nat} {e2 e1 : TypeId} {A : Option Addr} {n c : Nat} {ts : List Sl} (h0 : OII w0 lo e2 e1 A n c ts) (hl : w0.heap.size ≤ l) (h : OII w lo e2 e1 A n c ts) (hf : MkF T l hh w w') : OII w' lo e2 e1 A n c ts :=
  ⟨h.1.mkf_far hf (fun b hb => .inl (by have := h0.1.blk_lt b hb; omega)), fun t ht => (h.2.1 t ht).mkf_far hf (fun b hb => .inl (by have := (h0.2.1 t ht).blk_lt b hb; omega)), h.2.2⟩
theorem OII.touch_below {w0 w w' : World} {l hh lo : Nat} {e2 e1 : TypeId} {A : Option Addr} {n c : Nat} {ts : List Sl} (h0 : OII w0 lo e2 e1 A n c ts) (hl : w0.heap.size ≤ l) (h : OII w lo e2 e1 A n c ts) (ht : Tch l hh w w') : OII w' lo e2 e1 A n c ts :=
  ⟨h.1.touch ht (fun b hb => .inl (by have := h0.1.blk_lt b hb; omega)), fun t htm => (h.2.1 t htm).touch ht (fun b hb => .inl (by have := (h0.2.1 t htm).blk_lt b hb; omega)), h.2.2⟩

def offs (us : List Sl) (k : Nat) : Nat := total (us.take k)
theorem offs_zero (us : List Sl) : offs us 0 = 0 := by simp [offs, total]
theorem offs_next {us : List Sl} {t : Sl} {k : Nat} (hT : us[k]? = some t) : offs us (k + 1) = offs us k + t.xs.length := total_take hT
theorem offs_le (us : List Sl) (k : Nat) : offs us k ≤ total us := total_take_le us k
theorem offs_end {us : List Sl} {k : Nat} (h : us.length ≤ k) : offs us k = total us := by unfold offs; rw [List.take_of_length_le h]
/-- The rows hold marks that run on from row to row. -/
def MarkedII (w : World) (A : Option Addr) (n : Nat) (us : List Sl) (p : Int) : Prop := Rd w 1 A n (us.map Sl.val) ∧ ∀ k t, us[k]? = some t → SI w t.A t.xs.length (marks (p + offs us k) t.xs.length)
theorem MarkedII.below {w w' : World} {A : Option Addr} {n : Nat} {us : List Sl} {p : Int} (h : MarkedII w A n us p) (z : Below w.heap.size w w') : MarkedII w' A n us p := ⟨h.1.below z, fun k t ht => (h.2 k t ht).below z⟩
def MarkII (w : World) (lo hi : Nat) (A : Option Addr) (n : Nat) (us : List Sl) (p : Int) (e : Ending) (w' : World) : Prop := e = .returned (.int .i64 (p + total us)) ∧ MarkedII w' A n us p ∧ Tch lo hi w w'
/-- What holds behind the first k rows. -/
def MarkTo (w : World) (lo hi : Nat) (A : Option Addr) (n c : Nat) (us : List Sl) (p : Int) (k : Nat) (wr : World) : Prop :=
  Own wr lo 25 1 A n c (us.map Sl.val) ∧ (∀ j t, us[j]? = some t → j < k → SI wr t.A t.xs.length (marks (p + offs us j) t.xs.length)) ∧ (∀ j t, us[j]? = some t → k ≤ j → Own wr lo 2 1 t.A t.xs.length t.c (ints t.xs)) ∧ Tch lo hi w wr
theorem apt_of {us : List Sl} (h : us.Pairwise Apt) {i j : Nat} {t u : Sl} (hi : us[i]? = some t) (hj : us[j]? = some u) (hne : i ≠ j) : ∀ b, blk t.A = some b → blk u.A ≠ some b := by
  obtain ⟨hi1, rfl⟩ := List.getElem?_eq_some_iff.1 hi
  obtain ⟨hj1, rfl⟩ := List.getElem?_eq_some_iff.1 hj
  rw [List.pairwise_iff_getElem] at h
  rcases Nat.lt_or_gt_of_ne hne with hlt | hlt
  · exact h i j hi1 hj1 hlt
  · intro b h1 h2
    exact h j i hj1 hi1 hlt b h2 h1
theorem MarkTo.step {w wr w' : World} {lo hi : Nat} {A : Option Addr} {n c : Nat} {us : List Sl} {p : Int} {k : Nat} {t : Sl} (h : MarkTo w lo hi A n c us p k wr) (hap : us.Pairwise Apt) (hT : us[k]? = some t) (hne : 2 ≠ 25) (ho : OwnE w' lo 2 t.A t.xs.length t.c (marks (p + offs us k) t.xs.length)) (ht : Tch lo hi wr w') (hs : ∀ b, blk t.A ≠ some b → w'.heap[b]? = wr.heap[b]?) : MarkTo w lo hi A n c us p (k + 1) w' := by
  obtain ⟨h1, h2, h3, h4⟩ := h
  have hrow := h3 k t hT (Nat.le_refl _)
  refine ⟨h1.kept fun b hb _ _ => hs b (fun e => hrow.blk_ne h1 hne b e hb), ?_, ?_, h4.trans ht⟩
  · intro j u hu hj
    by_cases e : j = k
    · subst e
      rw [hT] at hu
      cases hu
      exact ho.si
    · refine Rd.keep (h2 j u hu (by omega)) fun q hq hbq => ?_
      exact World.cell?_of_block (hs q.block (fun e2 => apt_of hap hT hu (Ne.symm e) q.block e2 hbq.symm))
  · intro j u hu hj
    exact (h3 j u hu (by omega)).kept fun b hb _ _ => hs b (fun e2 => apt_of hap hT hu (by omega) b e2 hb)

set_option maxHeartbeats 1000000 in
theorem markII_c (A : Option Addr) (n c : Nat) (us : List Sl) (p : Int) (w : World) (lo hi : Nat) (o : OII w lo 25 2 A n c us) (hh : ∀ t ∈ us, ∀ b, blk t.A = some b → b < hi) (hne : 2 ≠ 25) (hn : n ≤ 1048576) (ht : total us ≤ 1048576) (g0 : 0 ≤ p) (g1 : p ≤ 1000000000) :
    Calls Try.prog 68 #[.slice A n c, .int .i64 p] w (MarkII w lo hi A n us p) := by
  have hl : us.length = n := by have := o.1.1; simp at this; omega
  have HL := Lib.hid hl
  have HO := Lib.hid o
  have HNE := Lib.hid hne
  have HH := Lib.hid hh
  clear hl hne hh
  have hst : MarkTo w lo hi A n c us p 0 w := ⟨o.1, fun j t _ hj => absurd hj (Nat.not_lt_zero j), fun j t hT _ => o.2.1 t (List.mem_of_getElem? hT), Tch.refl _ _ _⟩
  clear o
  go_enter Try.func68, Try.ntmps68
  go_wp2
  go_loopw [1, 5] (fun q i wr => ∃ k : Nat, k ≤ n ∧ i = .int .i64 k ∧ q = .int .i64 (p + offs us k) ∧ MarkTo w lo hi A n c us p k wr) (fun _ i _ => n - (intOf i).toNat)
  case atStart => exact ⟨0, by omega, rfl, by simp [offs_zero], hst⟩
  case round =>
    obtain ⟨k, hk, rfl, rfl, hM⟩ := hrel
    have hof := offs_le us k
    by_cases hlt : k < n
    · have hkl : k < us.length := by have := HL.out; omega
      obtain ⟨t, hT⟩ : ∃ t, us[k]? = some t := ⟨us[k], List.getElem?_eq_getElem hkl⟩
      have hof1 := offs_le us (k + 1)
      have HOF := Lib.hid (offs_next hT)
      have hle : offs us k + t.xs.length ≤ total us := by have := HOF.out; omega
      obtain ⟨b, off, rfl, _, _, hc, _⟩ := hM.1.at_ (k := k) (by simpa using hkl)
      have hcv : wr.cell? ⟨b, off + k, none⟩ = some (.slice t.A t.xs.length t.c) := by rw [hc]; obtain ⟨h, rfl⟩ := List.getElem?_eq_some_iff.1 hT; simp [Sl.val]
      have HT := Lib.hid hT
      have hrow := hM.2.2.1 k t hT (Nat.le_refl _)
      have HBL : Hid (∀ b, blk t.A = some b → b < hi) := fun b hb => HH.out t (List.mem_of_getElem? HT.out) b hb
      clear hc hT hof1
      go_wp2_with fail
      refine (markI _ _ _ t.xs _ _ lo hi (.inr hrow) HBL.out (by omega) (by omega)).mono ?_
      rintro e w3 ⟨rfl, oo, t3, s3⟩
      have hM2 := MarkTo.step hM HO.out.2.2 HT.out HNE.out oo t3 s3
      go_wp2_with fail
      go_roundw
      case rel => exact ⟨k + 1, by omega, by go_num, by rw [HOF.out]; go_num, hM2⟩
      case measure => simp [intOf]; omega
    · have hkn : k = us.length := by have := HL.out; omega
      go_wp2
      go_ret
      refine ⟨ret_int ?_, ⟨hM.1.rd, fun j t hT => hM.2.1 j t hT ?_⟩, hM.2.2.2⟩
      · rw [offs_end (by omega)]
      · have := (List.getElem?_eq_some_iff.1 hT).1; omega

set_option maxHeartbeats 1000000 in
theorem heldII_c (A : Option Addr) (n c : Nat) (us : List Sl) (p : Int) (w : World) (h : MarkedII w A n us p) (hn : n ≤ 1048576) (ht : total us ≤ 1048576) (g0 : 0 ≤ p) (g1 : p ≤ 1000000000) :
    Calls Try.prog 69 #[.slice A n c, .int .i64 p] w fun e w' => e = .returned (.int .i64 (p + total us)) ∧ Below w.heap.size w w' := by
  have hl : us.length = n := by have := h.1.1; simp at this; omega
  have HL := Lib.hid hl
  clear hl
  go_enter Try.func69, Try.ntmps69
  go_wp2
  go_loop [1, 5] (fun q i => ∃ k : Nat, k ≤ n ∧ i = .int .i64 k ∧ q = .int .i64 (p + offs us k)) (fun _ i => n - (intOf i).toNat)
  case atStart => exact ⟨0, by omega, rfl, by simp [offs_zero]⟩
  case round =>
    obtain ⟨k, hk, rfl, rfl⟩ := hrel
    have hof := offs_le us k
    by_cases hlt : k < n
    · have hkl : k < us.length := by have := HL.out; omega
      obtain ⟨t, hT⟩ : ∃ t, us[k]? = some t := ⟨us[k], List.getElem?_eq_getElem hkl⟩
      have hof1 := offs_le us (k + 1)
      have HOF := Lib.hid (offs_next hT)
      have hle : offs us k + t.xs.length ≤ total us := by have := HOF.out; omega
      obtain ⟨b, off, rfl, _, hc⟩ := h.1.at_ (k := k) (by simpa using hkl)
      have hcv : w.cell? ⟨b, off + k, none⟩ = some (.slice t.A t.xs.length t.c) := by rw [hc]; obtain ⟨h, rfl⟩ := List.getElem?_eq_some_iff.1 hT; simp [Sl.val]
      have hrow := h.2 k t hT
      have gneg : ¬ (p + (offs us k : Int) + (t.xs.length : Int) < 0) := by omega
      clear hc hT hof1
      go_wp2_with fail
      refine (heldI _ _ _ (marks (p + offs us k) t.xs.length) _ _ hrow (by omega) (by omega)).mono ?_
      rintro e w3 ⟨rfl, rfl⟩
      rw [heldF_marks]
      go_wp2_with fail
      go_round
      case rel => exact ⟨k + 1, by omega, by go_num, by rw [HOF.out]; go_num⟩
      case measure => simp [intOf]; omega
    · have hkn : k = us.length := by have := HL.out; omega
      go_wp2
      go_ret
      exact ⟨ret_int (by rw [offs_end (by omega)]), Below.refl _ _⟩
theorem total_of {us : List Sl} {M : List (List Int)} {b : Nat} (h : nums us = M) (hl : (M.map List.length).sum ≤ b) : total us ≤ b := by rw [total_of_nums, h]; exact hl
end Go.Proofs.Ythipbeggaeogcaa

/-
  Slices of rows that grow.
-/
namespace Go.Proofs.Ythipbeggaeogcaa
open Go.RowKit

theorem OII.snoc {wa w w2 : World} {lo n c c2 k : Nat} {e2 e1 : TypeId} {A A2 : Option Addr} {ts : List Sl} {u : Sl} (h : OII wa lo e2 e1 A n c ts) (hw : OII w lo e2 e1 A n c ts) (hs : Own w2 lo e2 1 A2 (n + 1) c2 (ts.map Sl.val ++ [u.val])) (hg : w.grownBy w2 (blk A))
    (hu : Own w k e1 1 u.A u.xs.length u.c (ints u.xs)) (hk : wa.heap.size ≤ k) (hlk : lo ≤ k) (hne : e1 ≠ e2) : OII w2 lo e2 e1 A2 (n + 1) c2 (ts ++ [u]) := by
  have far : ∀ {B : Option Addr} {m d lo' : Nat} {xs : List Value}, Own w lo' e1 1 B m d xs → Own w2 lo' e1 1 B m d xs := fun ho => ho.grown hg (fun g hgA hb => Own.blk_ne hw.1 ho (fun he => hne he.symm) g hgA hb)
  refine ⟨by simpa using hs, fun t ht => ?_, Apt.snoc h.2.2 (fun t ht b hb hb' => ?_)⟩
  · rcases List.mem_append.1 ht with h1 | h1
    · exact far (hw.2.1 t h1)
    · rw [List.mem_singleton.1 h1]; exact (far hu).mono hlk
  · have h1 := (h.2.1 t ht).blk_lt b hb
    have h2 := hu.blk_ge b hb'
    omega
theorem OII.len {w : World} {lo n c : Nat} {e2 e1 : TypeId} {A : Option Addr} {ts : List Sl} (h : OII w lo e2 e1 A n c ts) : ts.length = n := by have := h.1.1; simp at this; omega
/-- The blocks of a slice of rows. -/
def OIIB (A : Option Addr) (ts : List Sl) (b : Nat) : Prop := blk A = some b ∨ ∃ t ∈ ts, blk t.A = some b
theorem OII.keptB {w w' : World} {lo n c : Nat} {e2 e1 : TypeId} {A : Option Addr} {ts : List Sl} (h : OII w lo e2 e1 A n c ts) (hk : ∀ b, OIIB A ts b → w'.heap[b]? = w.heap[b]?) : OII w' lo e2 e1 A n c ts :=
  ⟨h.1.kept (fun b hb _ _ => hk b (.inl hb)), fun t ht => (h.2.1 t ht).kept (fun b hb _ _ => hk b (.inr ⟨t, ht, hb⟩)), h.2.2⟩
theorem OII.blkB {w : World} {lo n c : Nat} {e2 e1 : TypeId} {A : Option Addr} {ts : List Sl} (h : OII w lo e2 e1 A n c ts) : ∀ b, OIIB A ts b → lo ≤ b ∧ b < w.heap.size := by
  rintro b (hb | ⟨t, ht, hb⟩)
  · exact ⟨h.1.blk_ge b hb, h.1.blk_lt b hb⟩
  · exact ⟨(h.2.1 t ht).blk_ge b hb, (h.2.1 t ht).blk_lt b hb⟩
theorem Blk.aptt {w : World} {g : Nat} {t e : TypeId} {cur : Array Value} {lo n c s : Nat} {A : Option Addr} {cs : List Value} (h : Blk w g t cur) (h' : Own w lo e s A n c cs) (hne : t ≠ e) : blk A ≠ some g := by
  intro hb
  rcases h'.2 with ⟨rfl, _⟩ | ⟨b, off, cur2, rfl, _, hg, _⟩
  · simp [blk] at hb
  · simp [blk] at hb; subst hb
    unfold Blk at h
    rw [hg] at h
    simp at h
    exact hne h.2.symm
theorem Blk.growt {w w2 : World} {g : Nat} {t e : TypeId} {cur : Array Value} {lo n c s : Nat} {A : Option Addr} {cs : List Value} (h : Blk w g t cur) (h' : Own w lo e s A n c cs) (hg : w.grownBy w2 (blk A)) (hne : t ≠ e) : Blk w2 g t cur :=
  (hg.block g h.lt (fun e => h.aptt h' hne e.symm)).trans h
theorem OII.set_box {w : World} {lo n c g i : Nat} {t e2 e1 : TypeId} {cur : Array Value} {A : Option Addr} {ts : List Sl} (h : OII w lo e2 e1 A n c ts) (hb : Blk w g t cur) (h1 : t ≠ e2) (h2 : t ≠ e1) (u : Value) : OII (w.setCell ⟨g, i, none⟩ u) lo e2 e1 A n c ts :=
  ⟨h.1.far (p := ⟨g, i, none⟩) (hb.aptt h.1 h1) u, fun x hx => (h.2.1 x hx).far (p := ⟨g, i, none⟩) (hb.aptt (h.2.1 x hx) h2) u, h.2.2⟩
theorem OII.nil {w : World} {lo c : Nat} {e2 e1 : TypeId} {A : Option Addr} (h : Own w lo e2 1 A 0 c []) : OII w lo e2 e1 A 0 c [] := ⟨h, by simp, List.Pairwise.nil⟩
theorem OII.one {w : World} {lo c : Nat} {e2 e1 : TypeId} {A : Option Addr} {u : Sl} (h : Own w lo e2 1 A 1 c [u.val]) (hu : Own w lo e1 1 u.A u.xs.length u.c (ints u.xs)) : OII w lo e2 e1 A 1 c [u] := ⟨by simpa using h, by simpa using hu, List.pairwise_singleton _ _⟩
end Go.Proofs.Ythipbeggaeogcaa

/-
  Contracts of impl.tracked, HeadTrack, CellsVisited, RecordsOf.
-/
namespace Go.Proofs.Ythipbeggaeogcaa
open Go.RowKit

theorem quickM_config (g : Nat) (w : World) : (method 386 179 (.pointer (some ⟨g, 0, none⟩)) "loop.example/g01079/impl.config").run Try.prog w = .ok (247, .pointer (some ⟨g, 0, none⟩)) w := by kernel_rfl
theorem quickM_step (g : Nat) (w : World) : (method 386 179 (.pointer (some ⟨g, 0, none⟩)) "loop.example/g01079/impl.step").run Try.prog w = .ok (248, .pointer (some ⟨g, 0, none⟩)) w := by kernel_rfl

theorem trackerStep_any (g b : Nat) (p a1 a2 a3 : Int) (w : World) : Calls Try.prog 248 #[.pointer (some ⟨b, 0, none⟩), .pointer (some ⟨g, 0, none⟩), .int .i64 p, .agg #[.int .i64 a1, .int .i64 a2, .int .i64 a3]] w fun e w' => (∃ u, e = .returned u) ∧ Below w.heap.size w w' := by
  go_enter Try.func248, Try.ntmps248
  go_wp2_with fail
  exact bodyPost_end (results_none rfl _ _ _) rfl ⟨⟨_, rfl⟩, (Below.refl _ _).alloc (Nat.le_refl _) _⟩

def TrackP (w : World) (sy : Int) (rs : List R3) (N : Nat) (e : Ending) (w' : World) : Prop :=
  (∃ (i b : Nat) (P : Option Addr) (pc : Nat) (R : Option Addr) (rc : Nat) (rq : List Rq), Ended sy rs blankC N i ∧ e = .returned (.tuple #[.pointer (some ⟨b, 0, none⟩), .bool (haltC sy rs (itC sy rs blankC i)), .int .i64 0]) ∧ Blk w' b 186 #[.slice P (i + 1) pc, .slice R rq.length rc, .int .i64 (exF sy rs blankC (i + 1)).1, .int .i64 (exF sy rs blankC (i + 1)).2.1] ∧
    Own w' w.heap.size 2 1 P (i + 1) pc (ints (posTo sy rs blankC (i + 1))) ∧ Own w' w.heap.size 194 5 R rq.length rc (rq.flatMap Rq.cells) ∧ rq.map Rq.val = (exF sy rs blankC (i + 1)).2.2 ∧ Below w.heap.size w w') ∨
  (∃ i b, Full sy rs blankC N i ∧ e = .returned (.tuple #[.pointer (some ⟨b, 0, none⟩), .bool false, .int .i64 5]) ∧ Below w.heap.size w w')

set_option maxHeartbeats 2000000 in
theorem tracked_any (sy st : Int) (A : Option Addr) (n k : Nat) (rs : List R3) (N : Nat) (w : World) (hr : S3 w A n rs) (hn : n ≤ 1048576) (hg : goodC sy st rs blankC) (hN : N ≤ 1000000) :
    Calls Try.prog 141 #[.agg #[.int .i64 sy, .int .i64 st, .slice A n k], .int .i64 (N : Int)] w (TrackP w sy rs N) := by
  obtain ⟨W, hW_⟩ : ∃ W, W = (w.alloc (.cells #[.int .i64 sy, .int .i64 st, .slice A n k] 82)).alloc (.cells #[.slice none 0 0, .slice none 0 0, .int .i64 0, .int .i64 0] 186) := ⟨_, rfl⟩
  have s_1 : (w.alloc (.cells #[.int .i64 sy, .int .i64 st, .slice A n k] 82)).heap.size = w.heap.size + 1 := by simp
  have b0 : Blk W w.heap.size 82 #[.int .i64 sy, .int .i64 st, .slice A n k] := by rw [hW_]; exact (Blk.new w _ _).alloc _
  have b1 : Blk W (w.heap.size + 1) 186 #[.slice none 0 0, .slice none 0 0, .int .i64 0, .int .i64 0] := by rw [hW_, ← s_1]; exact Blk.new _ _ _
  have y0 : Below w.heap.size w W := by rw [hW_]; exact ((Below.refl _ _).alloc (Nat.le_refl _) _).alloc (by simp) _
  have HW := Lib.hid hW_
  clear hW_ s_1
  have q0 : W.cell? ⟨w.heap.size, 0, none⟩ = some (.int .i64 sy) := b0.cell 0
  have q1 : W.cell? ⟨w.heap.size, 1, none⟩ = some (.int .i64 st) := b0.cell 1
  have q2 : W.cell? ⟨w.heap.size, 2, none⟩ = some (.slice A n k) := b0.cell 2
  have hd0 : QD w (w.heap.size + 1) sy rs blankC 0 (fun x => x = w.heap.size + 1) W := ⟨none, 0, none, 0, [], rfl, fun x hx => by simp [blk] at hx, fun x hx => by simp [blk] at hx, by omega, b1, Own.nil, Own.nil, rfl⟩
  have hb1 := b1.lt
  have HF := Lib.hid (follow_any w W sy st A n k rs blankC none 0 0 none 0 0 N 179 (.pointer (some ⟨w.heap.size + 1, 0, none⟩)) (.pointer (some ⟨w.heap.size + 1, 0, none⟩)) _ _ (fun i => QD w (w.heap.size + 1) sy rs blankC i) (fun i => QD w (w.heap.size + 1) sy rs blankC (i + 1)) (fun x => x = w.heap.size + 1)
    hr SI.nil SI.nil hn (by omega) (by omega) hg hN y0 (fun b hb => by subst hb; exact hb1) hd0 (fun i => QD.st _ _ _ _ _ _) (fun i => QD.st _ _ _ _ _ _) (quickM_config _) (quickM_step _) Try.call247 Try.call248
    (fun i g W hi hal hS => quickConfig_any w g sy st A n k rs blankC i (w.heap.size + 1) W (hal.good hg) (by omega) hS)
    (fun i g W hi hal hh hS => (trackerStep_any g (w.heap.size + 1) _ _ _ _ W).mono fun e W' ⟨he, z⟩ => ⟨he, hS.below (QD.st _ _ _ _ _ _) z, fun b cs hb => hb.below' z⟩))
  clear b0 b1 hd0 hb1 hg
  go_enter Try.func141, Try.ntmps141
  go_wp2_with fail
  rw [← HW.out]
  refine HF.out.mono ?_
  rintro e W1 (⟨i, g, _, hE, rfl, hS⟩ | ⟨i, hE, rfl, hz⟩)
  · have HE := Lib.hid hE
    obtain ⟨P, pc, R, rc, rq, hq, hv⟩ := hS.qx
    have HV := Lib.hid hv
    clear hE hv hS q0 q1 q2
    go_wp2_with fail
    exact bodyPost_ret (v := .tuple #[.pointer (some ⟨w.heap.size + 1, 0, none⟩), .bool (haltC sy rs (itC sy rs blankC i)), .int .i64 0]) (by simp [results, Try.results141, go_sem]) rfl (.inl ⟨i, w.heap.size + 1, P, pc, R, rc, rq, HE.out, rfl, hq.box, hq.pos, hq.recs, HV.out, hq.low⟩)
  · have HE := Lib.hid hE
    clear hE q0 q1 q2
    go_wp2_with fail
    exact bodyPost_ret (v := .tuple #[.pointer (some ⟨w.heap.size + 1, 0, none⟩), .bool false, .int .i64 5]) (by simp [results, Try.results141, go_sem]) rfl (.inr ⟨i, w.heap.size + 1, HE.out, rfl, hz⟩)

/-- What HeadTrack returns. -/
def headTrackF (sy st : Int) (rs : List R3) (b : Int) : List Int × Int :=
  if machB sy st rs then
    if inB b 0 60 then
      match runN sy rs b.toNat blankC with
      | some i => (posTo sy rs blankC (i + 1), 0)
      | none => ([], 5)
    else ([], 2)
  else ([], 1)
theorem headTrackF_ended {sy st : Int} {rs : List R3} {N i : Nat} (h : machB sy st rs = true) (h1 : inB (N : Int) 0 60 = true) (h2 : Ended sy rs blankC N i) : headTrackF sy st rs (N : Int) = (posTo sy rs blankC (i + 1), 0) := by unfold headTrackF; rw [h, h1, Int.toNat_natCast, runN_ended h2]; rfl
theorem headTrackF_full {sy st : Int} {rs : List R3} {N i : Nat} (h : machB sy st rs = true) (h1 : inB (N : Int) 0 60 = true) (h2 : Full sy rs blankC N i) : headTrackF sy st rs (N : Int) = ([], 5) := by unfold headTrackF; rw [h, h1, Int.toNat_natCast, runN_full h2]; rfl
theorem headTrackF_len (sy st : Int) (rs : List R3) (b : Int) : (headTrackF sy st rs b).1.length ≤ 1048576 := by
  unfold headTrackF
  split
  · split
    · rename_i h
      have hb := (inB_iff _ _ _).1 h
      rcases run_cases sy rs b.toNat blankC with ⟨i, hi⟩ | ⟨i, hi⟩
      · rw [runN_ended hi]
        show (posTo sy rs blankC (i + 1)).length ≤ _
        rw [posTo_len]
        have := hi.1
        omega
      · rw [runN_full hi]; simp
    · simp
  · simp
theorem newI2_nil' {w wf : World} {k : Int} {r : List Int × Int} (hr : r = ([], k)) (hz : Below w.heap.size w wf) : NewI2 w r (.returned (.tuple #[.slice none 0 0, .int .i64 k])) wf := by
  subst hr
  exact ⟨none, 0, rfl, Own.nil, hz⟩
theorem newI2_of' {w wf : World} {k : Int} {r : List Int × Int} {xs : List Int} {n : Nat} {A : Option Addr} {c : Nat} (hr : r = (xs, k)) (hn : xs.length = n) (ho : Own wf w.heap.size 2 1 A n c (ints xs)) (hz : Below w.heap.size w wf) : NewI2 w r (.returned (.tuple #[.slice A n c, .int .i64 k])) wf := by
  subst hr
  subst hn
  exact ⟨A, c, rfl, ho, hz⟩

set_option maxHeartbeats 2000000 in
theorem headTrackI_any (sy st : Int) (A : Option Addr) (n k : Nat) (rs : List R3) (b : Int) (w : World) (hr : S3 w A n rs) (hn : n ≤ 1048576) :
    Calls Try.prog 62 #[.agg #[.int .i64 sy, .int .i64 st, .slice A n k], .int .i64 b] w (NewI2 w (headTrackF sy st rs b)) := by
  obtain ⟨W, hW_⟩ : ∃ W, W = w.alloc (.cells #[.int .i64 sy, .int .i64 st, .slice A n k] 82) := ⟨_, rfl⟩
  have b0 : Blk W w.heap.size 82 #[.int .i64 sy, .int .i64 st, .slice A n k] := by rw [hW_]; exact Blk.new w _ _
  have y0 : Below w.heap.size w W := by rw [hW_]; exact (Below.refl _ _).alloc (Nat.le_refl _) _
  have HW := Lib.hid hW_
  clear hW_
  have q0 : W.cell? ⟨w.heap.size, 0, none⟩ = some (.int .i64 sy) := b0.cell 0
  have q1 : W.cell? ⟨w.heap.size, 1, none⟩ = some (.int .i64 st) := b0.cell 1
  have q2 : W.cell? ⟨w.heap.size, 2, none⟩ = some (.slice A n k) := b0.cell 2
  go_enter Try.func62, Try.ntmps62
  go_wp2_with fail
  rw [← HW.out]
  refine (validMachine_any _ _ _ _ _ rs _ (hr.below y0) hn).mono ?_
  rintro e W1 ⟨rfl, z1⟩
  have y1 := y0.trans (z1.mono y0.size)
  have b1 := b0.below' z1
  clear q0 q1 q2
  have q0 : W1.cell? ⟨w.heap.size, 0, none⟩ = some (.int .i64 sy) := b1.cell 0
  have q1 : W1.cell? ⟨w.heap.size, 1, none⟩ = some (.int .i64 st) := b1.cell 1
  have q2 : W1.cell? ⟨w.heap.size, 2, none⟩ = some (.slice A n k) := b1.cell 2
  cases a0 : machB sy st rs
  · have HF : Hid (headTrackF sy st rs b = ([], 1)) := Lib.hid (by unfold headTrackF; rw [a0]; rfl)
    clear a0
    go_wp2_with fail
    exact bodyPost_ret (v := .tuple #[.slice none 0 0, .int .i64 1]) (by simp [results, Try.results62, go_sem]) rfl (newI2_nil' HF.out y1)
  have A0 := Lib.hid a0
  have hg : goodC sy st rs blankC := by show validConfB sy st rs 0 [] [] = true; rw [blank_good]; exact a0
  clear a0
  cases a1 : inB b 0 60
  · have HF : Hid (headTrackF sy st rs b = ([], 2)) := Lib.hid (by unfold headTrackF; rw [A0.out, a1]; rfl)
    have A1 := Lib.hid a1
    clear a1
    go_wp2_with (go_at_call 85; refine (within_is A1.out _).mono ?_; rintro e w' ⟨rfl, rfl⟩)
    exact bodyPost_ret (v := .tuple #[.slice none 0 0, .int .i64 2]) (by simp [results, Try.results62, go_sem]) rfl (newI2_nil' HF.out y1)
  have A1 := Lib.hid a1
  have hb := (inB_iff _ _ _).1 a1
  clear a1
  obtain ⟨N, rfl⟩ : ∃ N : Nat, b = (N : Int) := ⟨b.toNat, by omega⟩
  have HTR := Lib.hid (tracked_any sy st A n k rs N W1 (hr.below y1) hn hg (by omega))
  go_wp2_with (go_at_call 85; refine (within_is A1.out _).mono ?_; rintro e w' ⟨rfl, rfl⟩)
  refine HTR.out.mono ?_
  rintro e W2 (⟨i, b, P, pc, R, rc, rq, hE, rfl, hbx, hps, hrs, hv, z2⟩ | ⟨i, b, hE, rfl, z2⟩)
  · have HF := Lib.hid (headTrackF_ended A0.out A1.out hE)
    have HLN : Hid ((posTo sy rs blankC (i + 1)).length = i + 1) := Lib.hid (posTo_len _ _ _ _)
    have y2 := y1.trans (z2.mono y1.size)
    have x0 := hbx.cell 0
    clear hE hv q0 q1 q2
    go_wp2_with fail
    exact bodyPost_ret (v := .tuple #[.slice P (i + 1) pc, .int .i64 0]) (by simp [results, Try.results62, go_sem]) rfl (newI2_of' HF.out HLN.out (hps.mono y1.size) y2)
  · have HF := Lib.hid (headTrackF_full A0.out A1.out hE)
    have y2 := y1.trans (z2.mono y1.size)
    clear hE q0 q1 q2
    go_wp2_with fail
    exact bodyPost_ret (v := .tuple #[.slice none 0 0, .int .i64 5]) (by simp [results, Try.results62, go_sem]) rfl (newI2_nil' HF.out y2)
end Go.Proofs.Ythipbeggaeogcaa

/-
  The first row with a property. No program is in sight.
-/
namespace Go.Proofs.Ythipbeggaeogcaa
open Go.RowKit

def firstB (p : List Int → Bool) (xss : List (List Int)) : Int := match xss.findIdx? p with | some k => k | none => -1
theorem firstB_at {p : List Int → Bool} {ts : List Sl} {t : Sl} {k : Nat} (hT : ts[k]? = some t) (h : p t.xs = true) (he : ((nums ts).take k).any p = false) : (k : Int) = firstB p (nums ts) := by
  unfold firstB
  obtain ⟨hk, rfl⟩ := List.getElem?_eq_some_iff.1 hT
  have : (nums ts).findIdx? p = some k := by
    rw [List.findIdx?_eq_some_iff_getElem]
    refine ⟨by simpa [nums] using hk, by simpa [nums] using h, fun j hj => ?_⟩
    rw [List.any_eq_false] at he
    have := he ((nums ts)[j]'(by simp [nums]; omega)) (by rw [List.mem_take_iff_getElem]; exact ⟨j, by simp [nums]; omega, rfl⟩)
    simpa using this
  rw [this]
theorem firstB_none {p : List Int → Bool} {ts : List Sl} {k n : Nat} (hk : n ≤ k) (hl : ts.length = n) (he : ((nums ts).take k).any p = false) : -1 = firstB p (nums ts) := by
  unfold firstB
  rw [List.take_of_length_le (by simp [nums]; omega)] at he
  have : (nums ts).findIdx? p = none := by
    rw [List.findIdx?_eq_none_iff]
    intro x hx
    rw [List.any_eq_false] at he
    simpa using he x hx
  rw [this]
theorem firstB_next {p : List Int → Bool} {ts : List Sl} {t : Sl} {k : Nat} (hT : ts[k]? = some t) (h : p t.xs = false) (he : ((nums ts).take k).any p = false) : ((nums ts).take (k + 1)).any p = false := by
  obtain ⟨hk, rfl⟩ := List.getElem?_eq_some_iff.1 hT
  rw [List.take_succ_eq_append_getElem (by simpa [nums] using hk), List.any_append, he]
  simpa [nums] using h
theorem firstB_ge (p : List Int → Bool) (xss : List (List Int)) : decide (0 ≤ firstB p xss) = xss.any p := by
  unfold firstB
  cases h : xss.findIdx? p with
  | some k =>
    obtain ⟨hk, hp, _⟩ := List.findIdx?_eq_some_iff_getElem.1 h
    have : xss.any p = true := List.any_eq_true.2 ⟨_, List.getElem_mem hk, hp⟩
    rw [this]; simp
  | none =>
    have : xss.any p = false := by rw [List.any_eq_false]; intro x hx; simpa using List.findIdx?_eq_none_iff.1 h x hx
    rw [this]; simp
end Go.Proofs.Ythipbeggaeogcaa

/-
  A configuration that a law keeps in a box.
-/
namespace Go.Proofs.Ythipbeggaeogcaa
open Go.RowKit
theorem conf_ne {w : World} {g : Nat} {cs : Array Value} {lo s n' c' : Nat} {X : Option Addr} {xs : List Value} (h : Blk w g 172 cs) (h' : Own w lo 2 s X n' c' xs) : blk X ≠ some g := by
  intro hb
  rcases h'.2 with ⟨rfl, _⟩ | ⟨b, off, cur, rfl, _, hg, _⟩
  · simp [blk] at hb
  · simp [blk] at hb; subst hb
    unfold Blk at h
    rw [hg] at h
    simp at h
theorem conf_far2 {w : World} {g lo n c : Nat} {A : Option Addr} {cs : List Value} {vs : Array Value} (hg : Blk w g 172 vs) (h : Own w lo 2 1 A n c cs) (x y z : Value) : Own (((w.setCell ⟨g, 0, none⟩ x).setCell ⟨g, 1, none⟩ y).setCell ⟨g, 2, none⟩ z) lo 2 1 A n c cs := by
  have hb : blk A ≠ some g := conf_ne hg h
  exact ((h.far (p := ⟨g, 0, none⟩) hb _).far (p := ⟨g, 1, none⟩) hb _).far (p := ⟨g, 2, none⟩) hb _
/-- A result of StepMachine in a box. -/
def ConfBox (lo : Nat) (W : World) (s6 s7 : Value) (r : Conf × Int) (wx : World) : Prop :=
  ∃ g L c R d, s6 = .pointer (some ⟨g, 0, none⟩) ∧ s7 = .int .i64 r.2 ∧ lo ≤ g ∧ Blk wx g 172 #[.int .i64 r.1.q, .slice L r.1.xs.length c, .slice R r.1.ys.length d] ∧ Own wx lo 2 1 L r.1.xs.length c (ints r.1.xs) ∧ Own wx lo 2 1 R r.1.ys.length d (ints r.1.ys) ∧ (∀ b, blk L = some b → blk R ≠ some b) ∧ Below W.heap.size W wx
theorem stepMachF_len (sy st : Int) (rs : List R3) (q : Int) (xs ys : List Int) : (stepMachF sy st rs q xs ys).1.xs.length ≤ 1048576 ∧ (stepMachF sy st rs q xs ys).1.ys.length ≤ 1048576 := by
  unfold stepMachF
  split
  · split
    · split
      · rename_i h
        unfold roomC roomB at h
        simp only [Bool.and_eq_true, decide_eq_true_eq] at h
        exact ⟨by show (stepC (ruleOf sy rs q ys) xs ys).xs.length ≤ _; omega, by show (stepC (ruleOf sy rs q ys) xs ys).ys.length ≤ _; omega⟩
      · simp
    · simp
  · simp
end Go.Proofs.Ythipbeggaeogcaa
