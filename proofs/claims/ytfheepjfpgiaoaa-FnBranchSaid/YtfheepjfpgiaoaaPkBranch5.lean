/-
  Contract of impl's treeOf.
-/
import Derived.Test.YtfheepjfpgiaoaaPkBranch2
import Derived.Test.YtfheepjfpgiaoaaPkBranch4
import Derived.Laws.EntriesVeiled
import Derived.Test.YtfheepjfpgiaoaaHelpA
import Derived.Test.YtfheepjfpgiaoaaWords3
import Derived.Deep.RegionHeld3
import Derived.Deep.RegionLaw
import Derived.Deep.DeepCutAuto
import Derived.Test.YtfheepjfpgiaoaaHelpB
import Derived.Test.YtfheepjfpgiaoaaHelpBo
import Derived.Recover
import Derived.Defers
import Derived.Test.YtfheepjfpgiaoaaL00A
import Derived.Test.YtfheepjfpgiaoaaBase
namespace Go.Proofs.Ytfheepjfpgiaoaa
open Go.RowKit

def TreeP (w : World) (t : Tr) (e : Ending) (w' : World) : Prop := ∃ p, e = .returned (.pointer p) ∧ TrAt w' t p ∧ Below w.heap.size w w'
set_option maxRecDepth 100000 in
set_option maxHeartbeats 2000000 in
theorem treeOf_any (A : Option Addr) (n c : Nat) (t : Tr) (w : World) (hx : SB w A n t.enc) (hn : n ≤ 2000) : Calls Try.prog 100 #[.slice A n c] w (TreeP w t) := by
  have hmf : ∀ (fn : Fn) (first cap : Array Value) (w : World), (Instr.makeFunc fn first cap).run Try.prog w = .ok (.func fn first cap) w := fun _ _ _ _ => rfl
  have hcall := Try.call186
  obtain ⟨W, hW_⟩ : ∃ W, W = ((w.alloc (.cells #[.slice A n c] 43)).alloc (.cells #[.int .i64 0] 3)).alloc (.cells #[.nilFunc] 132) := ⟨_, rfl⟩
  have s_1 : (w.alloc (.cells #[.slice A n c] 43)).heap.size = w.heap.size + 1 := by simp
  have s_2 : ((w.alloc (.cells #[.slice A n c] 43)).alloc (.cells #[.int .i64 0] 3)).heap.size = w.heap.size + 1 + 1 := by simp
  have b0 : Blk W w.heap.size 43 #[.slice A n c] := by rw [hW_]; exact ((Blk.new w _ _).alloc _).alloc _
  have b1 : Blk W (w.heap.size + 1) 3 #[.int .i64 0] := by rw [hW_, ← s_1]; exact (Blk.new _ _ _).alloc _
  have b2 : Blk W (w.heap.size + 1 + 1) 132 #[.nilFunc] := by rw [hW_, ← s_2]; exact Blk.new _ _ _
  have y0 : Below w.heap.size w W := by rw [hW_]; exact (((Below.refl _ _).alloc (Nat.le_refl _) _).alloc (by simp) _).alloc (by simp; omega) _
  have HW := Lib.hid hW_
  clear hW_ s_1 s_2
  have c2 : W.cell? ⟨w.heap.size + 1 + 1, 0, none⟩ = some .nilFunc := b2.cell 0
  have f2 := b2.frozen 0
  obtain ⟨F, hF⟩ : ∃ F, F = Value.func (.func 186) #[] #[.pointer (some ⟨w.heap.size, 0, none⟩), .pointer (some ⟨w.heap.size + 1, 0, none⟩), .pointer (some ⟨w.heap.size + 1 + 1, 0, none⟩)] := ⟨_, rfl⟩
  obtain ⟨V, hV⟩ : ∃ V, V = W.setCell ⟨w.heap.size + 1 + 1, 0, none⟩ F := ⟨_, rfl⟩
  have y1 : Below w.heap.size w V := by rw [hV]; exact y0.setCell (p := ⟨w.heap.size + 1 + 1, 0, none⟩) (by simp; omega) _
  have v0 : Blk V w.heap.size 43 #[.slice A n c] := by rw [hV]; exact b0.far (p := ⟨w.heap.size + 1 + 1, 0, none⟩) (by simp; omega) _
  have v1 : Blk V (w.heap.size + 1) 3 #[.int .i64 ((0 : Nat) : Int)] := by rw [hV]; exact b1.far (p := ⟨w.heap.size + 1 + 1, 0, none⟩) (by simp) _
  have v2 : Blk V (w.heap.size + 1 + 1) 132 #[F] := by rw [hV]; exact b2.set_ 0 F
  have q2 : V.cell? ⟨w.heap.size + 1 + 1, 0, none⟩ = some F := v2.cell 0
  have hI : BuildI V A n c t.enc w.heap.size (w.heap.size + 1) (w.heap.size + 1 + 1) 0 := ⟨hx.below y1, fun e => by
      rcases Nat.eq_zero_or_pos n with h0 | h0
      · have h1 := hx.len
        rw [enc_len] at h1
        have := nodes_pos t; omega
      · obtain ⟨b, g, off, _, rfl, hb, _⟩ := hx.pick h0
        have e2 : g = w.heap.size + 1 := Option.some.inj e
        omega, v0, v1, hF ▸ v2⟩
  have HB := Lib.hid (build_any A n c w.heap.size (w.heap.size + 1) (w.heap.size + 1 + 1) t.enc hn t [] 0 V (by rw [List.drop_zero, List.append_nil]) hI)
  have HV := Lib.hid hV
  have HFF := Lib.hid hF
  have HY := Lib.hid y1
  clear hI v0 v1 v2 b0 b1 b2 hV y1
  go_enter Try.func100, Try.ntmps100
  go_upto_region 3 with fail
  rw [← HW.out]
  go_upto_region 4 with fail
  rw [← HFF.out, ← HV.out]
  rw [hF] at q2
  clear hF
  go_wp2_with fail
  refine HB.out.mono ?_
  rintro e W4 ⟨p, rfl, hp, _, z⟩
  go_wp2_with fail
  go_ret
  exact ⟨p, rfl, hp, z.below HY.out (by omega)⟩
end Go.Proofs.Ytfheepjfpgiaoaa

/-
  Words that the laws' walks share: a box that a region made, contracts of the helpers in one form.
-/
namespace Go.Proofs.Ytfheepjfpgiaoaa
open Go.RowKit

theorem Own.asI {w : World} {lo n c : Nat} {e : TypeId} {A : Option Addr} {xs : List Int} (h : Own w lo e 1 A n c (ints xs)) : SI w A n xs := h.rd
theorem Own.as3 {w : World} {lo n c : Nat} {e : TypeId} {A : Option Addr} {xs : List R3} (h : Own w lo e 3 A n c (cells3 xs)) : S3 w A n xs := h.rd
/-- A block from lo on that is known whole. -/
def Bx (lo : Nat) (t : TypeId) (cs : Array Value) (g : Nat) (w : World) : Prop := lo ≤ g ∧ Blk w g t cs
theorem Bx.new {lo : Nat} (w : World) (t : TypeId) (cs : Array Value) (h : lo ≤ w.heap.size) : Bx lo t cs w.heap.size (w.alloc (.cells cs t)) := ⟨h, Blk.new w t cs⟩
theorem Bx.below' {lo g : Nat} {t : TypeId} {cs : Array Value} {w w' : World} (h : Bx lo t cs g w) (z : Below w.heap.size w w') : Bx lo t cs g w' := ⟨h.1, h.2.below' z⟩
theorem Bx.drewN {lo g : Nat} {t : TypeId} {cs : Array Value} {w : World} (h : Bx lo t cs g w) (n : Nat) : Bx lo t cs g (w.drewN n) := ⟨h.1, h.2.drewN n⟩
theorem below_of_alloc {w w' : World} {o : Obj} (h : Below (w.alloc o).heap.size (w.alloc o) w') : Below w.heap.size w w' :=
  ((Below.refl _ _).alloc (Nat.le_refl _) o).trans (h.mono (by simp))
theorem sameII_self (xs : List (List Int)) : sameII xs xs = true := by simp [sameII]
end Go.Proofs.Ytfheepjfpgiaoaa

/-
  What the size helpers of the laws come to, in one form.
-/
namespace Go.Proofs.Ytfheepjfpgiaoaa
open Go.RowKit
def SzP (w : World) (left tot : Int) (e : Ending) (w' : World) : Prop := ∃ z : Int, e = .returned (.int .i64 z) ∧ -1 ≤ z ∧ z ≤ left ∧ (0 ≤ z → z = left - tot) ∧ Below w.heap.size w w'
theorem szF_p {left : Int} {n : Nat} (h0 : 0 ≤ left) : -1 ≤ szF left n ∧ szF left n ≤ left ∧ (0 ≤ szF left n → szF left n = left - n) := by
  unfold szF; split <;> omega
end Go.Proofs.Ytfheepjfpgiaoaa

/-
  What the size helper over [][]int64 comes to, in one form; totals of rows.
-/
namespace Go.Proofs.Ytfheepjfpgiaoaa
open Go.RowKit
theorem szRows_tot : ∀ (rows : List Nat) (left : Int), 0 ≤ left → -1 ≤ szRows left rows ∧ szRows left rows ≤ left ∧ (0 ≤ szRows left rows → szRows left rows = left - rows.sum)
  | [], left, h => by simp [szRows]; omega
  | n :: r, left, h => by
    rw [szRows]
    split
    · omega
    · rename_i hn
      have h2 := szRows_tot r (left - n) (by omega)
      simp only [List.sum_cons]
      omega
theorem row_total {ts : List Sl} {t : Sl} (h : t ∈ ts) : t.xs.length ≤ total ts := by
  unfold total
  obtain ⟨a, b, rfl⟩ := List.append_of_mem h
  simp; omega
theorem total_of_nums (ts : List Sl) : total ts = ((nums ts).map List.length).sum := by simp [total, nums, Function.comp_def]
theorem total_same {ts us : List Sl} (h : nums us = nums ts) : total us = total ts := by rw [total_of_nums, total_of_nums, h]
theorem rows_le {ts us : List Sl} (h : nums us = nums ts) {b : Nat} (hb : ∀ t ∈ ts, t.xs.length ≤ b) : ∀ u ∈ us, u.xs.length ≤ b := by
  intro u hu
  have h1 : u.xs ∈ nums us := List.mem_map.2 ⟨u, hu, rfl⟩
  rw [h] at h1
  obtain ⟨t, ht, e⟩ := List.mem_map.1 h1
  rw [← e]; exact hb t ht
end Go.Proofs.Ytfheepjfpgiaoaa

/-
  Marks that are read again, for [][]int64; owned rows behind other marks.
-/
namespace Go.Proofs.Ytfheepjfpgiaoaa
open Go.RowKit

theorem OII.blk_ge {w : World} {lo : Nat} {e2 e1 : TypeId} {A : Option Addr} {n c : Nat} {ts : List Sl} (h : OII w lo e2 e1 A n c ts) : ∀ b, blk A = some b → lo ≤ b := h.1.blk_ge
theorem OII.mono {w : World} {lo lo' : Nat} {e2 e1 : TypeId} {A : Option Addr} {n c : Nat} {ts : List Sl} (h : OII w lo e2 e1 A n c ts) (hl : lo' ≤ lo) : OII w lo' e2 e1 A n c ts := ⟨h.1.mono hl, fun t ht => (h.2.1 t ht).mono hl, h.2.2⟩
theorem OII.alloc {w : World} {lo : Nat} {e2 e1 : TypeId} {A : Option Addr} {n c : Nat} {ts : List Sl} (h : OII w lo e2 e1 A n c ts) (o : Obj) : OII (w.alloc o) lo e2 e1 A n c ts := ⟨h.1.alloc o, fun t ht => (h.2.1 t ht).alloc o, h.2.2⟩
theorem OII.mkf_far {T : List TypeId} {w w' : World} {l hh lo : Nat} {e2 e1 : TypeId} {A : Option Addr} {n c : Nat} {ts : List Sl} (h : OII w lo e2 e1 A n c ts) (hf : MkF T l hh w w') (hd : ∀ b, lo ≤ b → b < l ∨ hh ≤ b) : OII w' lo e2 e1 A n c ts :=
  ⟨h.1.mkf_far hf (fun b hb => hd b (h.1.blk_ge b hb)), fun t ht => (h.2.1 t ht).mkf_far hf (fun b hb => hd b ((h.2.1 t ht).blk_ge b hb)), h.2.2⟩
theorem OII.mkf_below {T : List TypeId} {w0 w w' : World} {l hh lo : Nat} {e2 e1 : TypeId} {A : Option Addr} {n c : Nat} {ts : List Sl} (h0 : OII w0 lo e2 e1 A n c ts) (hl : w0.heap.size ≤ l) (h : OII w lo e2 e1 A n c ts) (hf : MkF T l hh w w') : OII w' lo e2 e1 A n c ts :=
  ⟨h.1.mkf_far hf (fun b hb => .inl (by have := h0.1.blk_lt b hb; omega)), fun t ht => (h.2.1 t ht).mkf_far hf (fun b hb => .inl (by have := (h0.2.1 t ht).blk_lt b hb; omega)), h.2.2⟩
theorem OII.touch_below {w0 w w' : World} {l hh lo : Nat} {e2 e1 : TypeId} {A : Option Addr} {n c : Nat} {ts : List Sl} (h0 : OII w0 lo e2 e1 A n c ts) (hl : w0.heap.size ≤ l) (h : OII w lo e2 e1 A n c ts) (ht : Tch l hh w w') : OII w' lo e2 e1 A n c ts :=
  ⟨h.1.touch ht (fun b hb => .inl (by have := h0.1.blk_lt b hb; omega)), fun t htm => (h.2.1 t htm).touch ht (fun b hb => .inl (by have := (h0.2.1 t htm).blk_lt b hb; omega)), h.2.2⟩

def offs (us : List Sl) (k : Nat) : Nat := total (us.take k)
theorem offs_zero (us : List Sl) : offs us 0 = 0 := by simp [offs, total]
theorem offs_next {us : List Sl} {t : Sl} {k : Nat} (hT : us[k]? = some t) : offs us (k + 1) = offs us k + t.xs.length := total_take hT
theorem offs_le (us : List Sl) (k : Nat) : offs us k ≤ total us := total_take_le us k
theorem offs_end {us : List Sl} {k : Nat} (h : us.length ≤ k) : offs us k = total us := by unfold offs; rw [List.take_of_length_le h]
/-- The rows hold marks that run on from row to row. -/
def MarkedII (w : World) (A : Option Addr) (n : Nat) (us : List Sl) (p : Int) : Prop := Rd w 1 A n (us.map Sl.val) ∧ ∀ k t, us[k]? = some t → SI w t.A t.xs.length (marks (p + offs us k) t.xs.length)
theorem MarkedII.below {w w' : World} {A : Option Addr} {n : Nat} {us : List Sl} {p : Int} (h : MarkedII w A n us p) (z : Below w.heap.size w w') : MarkedII w' A n us p := ⟨h.1.below z, fun k t ht => (h.2 k t ht).below z⟩
def MarkII (w : World) (lo hi : Nat) (A : Option Addr) (n : Nat) (us : List Sl) (p : Int) (e : Ending) (w' : World) : Prop := e = .returned (.int .i64 (p + total us)) ∧ MarkedII w' A n us p ∧ Tch lo hi w w'
/-- What holds behind the first k rows. -/
def MarkTo (w : World) (lo hi : Nat) (A : Option Addr) (n c : Nat) (us : List Sl) (p : Int) (k : Nat) (wr : World) : Prop :=
  Own wr lo 48 1 A n c (us.map Sl.val) ∧ (∀ j t, us[j]? = some t → j < k → SI wr t.A t.xs.length (marks (p + offs us j) t.xs.length)) ∧ (∀ j t, us[j]? = some t → k ≤ j → Own wr lo 2 1 t.A t.xs.length t.c (ints t.xs)) ∧ Tch lo hi w wr
theorem apt_of {us : List Sl} (h : us.Pairwise Apt) {i j : Nat} {t u : Sl} (hi : us[i]? = some t) (hj : us[j]? = some u) (hne : i ≠ j) : ∀ b, blk t.A = some b → blk u.A ≠ some b := by
  obtain ⟨hi1, rfl⟩ := List.getElem?_eq_some_iff.1 hi
  obtain ⟨hj1, rfl⟩ := List.getElem?_eq_some_iff.1 hj
  rw [List.pairwise_iff_getElem] at h
  rcases Nat.lt_or_gt_of_ne hne with hlt | hlt
  · exact h i j hi1 hj1 hlt
  · intro b h1 h2
    exact h j i hj1 hi1 hlt b h2 h1
theorem MarkTo.step {w wr w' : World} {lo hi : Nat} {A : Option Addr} {n c : Nat} {us : List Sl} {p : Int} {k : Nat} {t : Sl} (h : MarkTo w lo hi A n c us p k wr) (hap : us.Pairwise Apt) (hT : us[k]? = some t) (hne : 2 ≠ 48) (ho : OwnE w' lo 2 t.A t.xs.length t.c (marks (p + offs us k) t.xs.length)) (ht : Tch lo hi wr w') (hs : ∀ b, blk t.A ≠ some b → w'.heap[b]? = wr.heap[b]?) : MarkTo w lo hi A n c us p (k + 1) w' := by
  obtain ⟨h1, h2, h3, h4⟩ := h
  have hrow := h3 k t hT (Nat.le_refl _)
  refine ⟨h1.kept fun b hb _ _ => hs b (fun e => hrow.blk_ne h1 hne b e hb), ?_, ?_, h4.trans ht⟩
  · intro j u hu hj
    by_cases e : j = k
    · subst e
      rw [hT] at hu
      cases hu
      exact ho.si
    · refine Rd.keep (h2 j u hu (by omega)) fun q hq hbq => ?_
      exact World.cell?_of_block (hs q.block (fun e2 => apt_of hap hT hu (Ne.symm e) q.block e2 hbq.symm))
  · intro j u hu hj
    exact (h3 j u hu (by omega)).kept fun b hb _ _ => hs b (fun e2 => apt_of hap hT hu (by omega) b e2 hb)

theorem total_of {us : List Sl} {M : List (List Int)} {b : Nat} (h : nums us = M) (hl : (M.map List.length).sum ≤ b) : total us ≤ b := by rw [total_of_nums, h]; exact hl
end Go.Proofs.Ytfheepjfpgiaoaa

/-
  Slices of rows that grow.
-/
namespace Go.Proofs.Ytfheepjfpgiaoaa
open Go.RowKit

theorem OII.snoc {wa w w2 : World} {lo n c c2 k : Nat} {e2 e1 : TypeId} {A A2 : Option Addr} {ts : List Sl} {u : Sl} (h : OII wa lo e2 e1 A n c ts) (hw : OII w lo e2 e1 A n c ts) (hs : Own w2 lo e2 1 A2 (n + 1) c2 (ts.map Sl.val ++ [u.val])) (hg : w.grownBy w2 (blk A))
    (hu : Own w k e1 1 u.A u.xs.length u.c (ints u.xs)) (hk : wa.heap.size ≤ k) (hlk : lo ≤ k) (hne : e1 ≠ e2) : OII w2 lo e2 e1 A2 (n + 1) c2 (ts ++ [u]) := by
  have far : ∀ {B : Option Addr} {m d lo' : Nat} {xs : List Value}, Own w lo' e1 1 B m d xs → Own w2 lo' e1 1 B m d xs := fun ho => ho.grown hg (fun g hgA hb => Own.blk_ne hw.1 ho (fun he => hne he.symm) g hgA hb)
  refine ⟨by simpa using hs, fun t ht => ?_, Apt.snoc h.2.2 (fun t ht b hb hb' => ?_)⟩
  · rcases List.mem_append.1 ht with h1 | h1
    · exact far (hw.2.1 t h1)
    · rw [List.mem_singleton.1 h1]; exact (far hu).mono hlk
  · have h1 := (h.2.1 t ht).blk_lt b hb
    have h2 := hu.blk_ge b hb'
    omega
theorem OII.len {w : World} {lo n c : Nat} {e2 e1 : TypeId} {A : Option Addr} {ts : List Sl} (h : OII w lo e2 e1 A n c ts) : ts.length = n := by have := h.1.1; simp at this; omega
/-- The blocks of a slice of rows. -/
def OIIB (A : Option Addr) (ts : List Sl) (b : Nat) : Prop := blk A = some b ∨ ∃ t ∈ ts, blk t.A = some b
theorem OII.keptB {w w' : World} {lo n c : Nat} {e2 e1 : TypeId} {A : Option Addr} {ts : List Sl} (h : OII w lo e2 e1 A n c ts) (hk : ∀ b, OIIB A ts b → w'.heap[b]? = w.heap[b]?) : OII w' lo e2 e1 A n c ts :=
  ⟨h.1.kept (fun b hb _ _ => hk b (.inl hb)), fun t ht => (h.2.1 t ht).kept (fun b hb _ _ => hk b (.inr ⟨t, ht, hb⟩)), h.2.2⟩
theorem OII.blkB {w : World} {lo n c : Nat} {e2 e1 : TypeId} {A : Option Addr} {ts : List Sl} (h : OII w lo e2 e1 A n c ts) : ∀ b, OIIB A ts b → lo ≤ b ∧ b < w.heap.size := by
  rintro b (hb | ⟨t, ht, hb⟩)
  · exact ⟨h.1.blk_ge b hb, h.1.blk_lt b hb⟩
  · exact ⟨(h.2.1 t ht).blk_ge b hb, (h.2.1 t ht).blk_lt b hb⟩
theorem Blk.aptt {w : World} {g : Nat} {t e : TypeId} {cur : Array Value} {lo n c s : Nat} {A : Option Addr} {cs : List Value} (h : Blk w g t cur) (h' : Own w lo e s A n c cs) (hne : t ≠ e) : blk A ≠ some g := by
  intro hb
  rcases h'.2 with ⟨rfl, _⟩ | ⟨b, off, cur2, rfl, _, hg, _⟩
  · simp [blk] at hb
  · simp [blk] at hb; subst hb
    unfold Blk at h
    rw [hg] at h
    simp at h
    exact hne h.2.symm
theorem Blk.growt {w w2 : World} {g : Nat} {t e : TypeId} {cur : Array Value} {lo n c s : Nat} {A : Option Addr} {cs : List Value} (h : Blk w g t cur) (h' : Own w lo e s A n c cs) (hg : w.grownBy w2 (blk A)) (hne : t ≠ e) : Blk w2 g t cur :=
  (hg.block g h.lt (fun e => h.aptt h' hne e.symm)).trans h
theorem OII.set_box {w : World} {lo n c g i : Nat} {t e2 e1 : TypeId} {cur : Array Value} {A : Option Addr} {ts : List Sl} (h : OII w lo e2 e1 A n c ts) (hb : Blk w g t cur) (h1 : t ≠ e2) (h2 : t ≠ e1) (u : Value) : OII (w.setCell ⟨g, i, none⟩ u) lo e2 e1 A n c ts :=
  ⟨h.1.far (p := ⟨g, i, none⟩) (hb.aptt h.1 h1) u, fun x hx => (h.2.1 x hx).far (p := ⟨g, i, none⟩) (hb.aptt (h.2.1 x hx) h2) u, h.2.2⟩
theorem OII.nil {w : World} {lo c : Nat} {e2 e1 : TypeId} {A : Option Addr} (h : Own w lo e2 1 A 0 c []) : OII w lo e2 e1 A 0 c [] := ⟨h, by simp, List.Pairwise.nil⟩
theorem OII.one {w : World} {lo c : Nat} {e2 e1 : TypeId} {A : Option Addr} {u : Sl} (h : Own w lo e2 1 A 1 c [u.val]) (hu : Own w lo e1 1 u.A u.xs.length u.c (ints u.xs)) : OII w lo e2 e1 A 1 c [u] := ⟨by simpa using h, by simpa using hu, List.pairwise_singleton _ _⟩
end Go.Proofs.Ytfheepjfpgiaoaa

/-
  Contract of impl's (*tree).list.
-/
namespace Go.Proofs.Ytfheepjfpgiaoaa
open Go.RowKit

/-- What list's own function finds: the list so far, and itself. -/
structure ListI (w : World) (lo g fb : Nat) (A : Option Addr) (m c : Nat) (xs : List Bool) : Prop where
  out : Blk w g 43 #[.slice A m c]
  own : Own w lo 4 1 A m c (bools xs)
  fn : Blk w fb 227 #[.func (.func 177) #[] #[.pointer (some ⟨g, 0, none⟩), .pointer (some ⟨fb, 0, none⟩)]]
  glo : lo ≤ g
  low : lo ≤ w.heap.size
def VisitP (w : World) (lo g fb : Nat) (m : Nat) (xs : List Bool) (t : Tr) (e : Ending) (w' : World) : Prop :=
  ∃ u A' c', e = .returned u ∧ ListI w' lo g fb A' (m + t.nodes) c' (xs ++ t.enc) ∧ KT w w' ∧ Below lo w w'
theorem ListI.drewN {w : World} {lo g fb m c : Nat} {A : Option Addr} {xs : List Bool} (h : ListI w lo g fb A m c xs) (n : Nat) : ListI (w.drewN n) lo g fb A m c xs := ⟨h.out.drewN n, h.own.drewN n, h.fn.drewN n, h.glo, h.low⟩
/-- One node more. -/
theorem ListI.push {w w2 : World} {lo g fb m c c2 : Nat} {A A2 : Option Addr} {xs : List Bool} (h : ListI w lo g fb A m c xs) (b : Bool) (ho : Own w2 lo 4 1 A2 (m + 1) c2 (bools xs ++ [.bool b])) (hg : (w.alloc (.cells #[.bool b] 4)).grownBy w2 (blk A)) :
    ListI (w2.setCell ⟨g, 0, none⟩ (.slice A2 (m + 1) c2)) lo g fb A2 (m + 1) c2 (xs ++ [b]) ∧ KT w (w2.setCell ⟨g, 0, none⟩ (.slice A2 (m + 1) c2)) ∧ Below lo w (w2.setCell ⟨g, 0, none⟩ (.slice A2 (m + 1) c2)) := by
  have oa := h.own.alloc (.cells #[.bool b] 4)
  have g2 : Blk w2 g 43 #[.slice A m c] := (h.out.alloc _).grown oa hg (by decide)
  have f2 : Blk w2 fb _ _ := (h.fn.alloc _).grown oa hg (by decide)
  have e1 : bools xs ++ [.bool b] = bools (xs ++ [b]) := by simp [bools]
  rw [e1] at ho
  refine ⟨⟨g2.set_ 0 _, ho.far (p := ⟨g, 0, none⟩) (g2.apt ho (by decide)) _, f2.far (p := ⟨g, 0, none⟩) (fun e => ?_) _, h.glo, ?_⟩, ?_, ?_⟩
  · have e : fb = g := e
    subst e
    have h1 := Eq.trans (Eq.symm g2) f2
    simp at h1
  · have h1 := hg.size
    have h2 := h.low
    simp at h1 ⊢
    omega
  · exact ((KT.below ((Below.refl _ _).alloc (Nat.le_refl _) _)).trans (KT.grown oa hg (by decide))).trans (KT.setCell g2 (by decide) _)
  · exact (((Below.refl lo w).alloc h.low _).grown hg (by have := h.low; simp; omega) (fun b' hb => h.own.blk_ge b' hb)).setCell (p := ⟨g, 0, none⟩) h.glo _
set_option maxRecDepth 100000 in
set_option maxHeartbeats 4000000 in
theorem visit_any (lo g fb : Nat) : ∀ (t : Tr) (p A : Option Addr) (m c : Nat) (xs : List Bool) (w : World), TrAt w t p → ListI w lo g fb A m c xs → m + t.nodes ≤ 1000000000 →
    Calls Try.prog 177 #[.pointer p, .pointer (some ⟨g, 0, none⟩), .pointer (some ⟨fb, 0, none⟩)] w (VisitP w lo g fb m xs t) := by
  intro t
  have hcall := Try.call177
  induction t with
  | nil =>
    intro p A m c xs w hp h hn
    obtain rfl : p = none := hp
    have g0 : w.cell? ⟨g, 0, none⟩ = some (.slice A m c) := h.out.cell 0
    have hm : m ≤ 999999999 := by have := nodes_pos .nil; omega
    have hlo := h.low
    have hg2 := h.out.lt
    have HH := Lib.hid h
    have ho := h.own.alloc (.cells #[.bool false] 4)
    clear h
    go_enter Try.func177, Try.ntmps177
    go_wp2_with (at_builtin; refine wpList_append_Own rfl (.tmp 4) (.tmp 7) rfl elBool (lo := lo) rfl ho rfl (Rd.new1 w _ _) (by intro u hu; simp at hu; subst hu; rfl) (by omega) (by simp only [maxLen]; omega) (by simp; omega) ?_; intro A2 c2 w2 o2 hg _; have hP := HH.out.push false o2 hg; have gc : w2.cell? ⟨g, 0, none⟩ = some (.slice A m c) := ((HH.out.out.alloc _).grown (HH.out.own.alloc _) hg (by decide)).cell 0; have gf : w2.frozen? ⟨g, 0, none⟩ = false := ((HH.out.out.alloc _).grown (HH.out.own.alloc _) hg (by decide)).frozen 0)
    go_end0
    exact ⟨_, A2, c2, rfl, hP.1, hP.2.1, hP.2.2⟩
  | nd a b iha ihb =>
    intro p A m c xs w hp h hn
    obtain ⟨q, x, y, rfl, hb, hx, hy⟩ := hp
    have g0 : w.cell? ⟨g, 0, none⟩ = some (.slice A m c) := h.out.cell 0
    have hm : m + 1 + a.nodes + b.nodes ≤ 1000000000 := by rw [Tr.nodes] at hn; omega
    have ha1 := nodes_pos a
    have hlo := h.low
    have hg2 := h.out.lt
    have HH := Lib.hid h
    have ho := h.own.alloc (.cells #[.bool true] 4)
    obtain ⟨na, hna⟩ : ∃ na, a.nodes = na := ⟨_, rfl⟩
    obtain ⟨nb, hnb⟩ : ∃ nb, b.nodes = nb := ⟨_, rfl⟩
    have HNA := Lib.hid hna
    have HNB := Lib.hid hnb
    rw [hna] at hm ha1
    rw [hnb] at hm
    have HIA := Lib.hid iha
    have HIB := Lib.hid ihb
    clear h hna hnb hn iha ihb
    go_enter Try.func177, Try.ntmps177
    go_upto_region 1 with (at_builtin; refine wpList_append_Own rfl (.tmp 4) (.tmp 7) rfl elBool (lo := lo) rfl ho rfl (Rd.new1 w _ _) (by intro u hu; simp at hu; subst hu; rfl) (by omega) (by simp only [maxLen]; omega) (by simp; omega) ?_; intro A2 c2 w2 o2 hg _; have hP := HH.out.push true o2 hg; have gc : w2.cell? ⟨g, 0, none⟩ = some (.slice A m c) := ((HH.out.out.alloc _).grown (HH.out.own.alloc _) hg (by decide)).cell 0; have gf : w2.frozen? ⟨g, 0, none⟩ = false := ((HH.out.out.alloc _).grown (HH.out.own.alloc _) hg (by decide)).frozen 0)
    have hB : KT w (w2.setCell ⟨g, 0, none⟩ (.slice A2 (m + 1) c2)) := hP.2.1
    have hL := hP.1
    have hz := hP.2.2
    have hxa := hx.kt hB
    have hyb := hy.kt hB
    have hq := hB _ _ hb
    clear hP gc gf o2 hg
    generalize w2.setCell ⟨g, 0, none⟩ (.slice A2 (m + 1) c2) = W at *
    have c0 : W.cell? ⟨q, 0, none⟩ = some (.pointer x) := hq.cell 0
    have c1 : W.cell? ⟨fb, 0, none⟩ = some (.func (.func 177) #[] #[.pointer (some ⟨g, 0, none⟩), .pointer (some ⟨fb, 0, none⟩)]) := hL.fn.cell 0
    have HL := Lib.hid hL
    have HQ := Lib.hid hq
    have HXA := Lib.hid hxa
    have HYB := Lib.hid hyb
    have HZ := Lib.hid hz
    have HK1 := Lib.hid hB
    clear hb hq hL hxa hyb ho g0 hz hB hx hy HH
    go_upto_region 2 with fail
    go_region_held3 (fun w' => w'.cell? ⟨q, 0, none⟩ = some (.pointer x) ∧ w'.cell? ⟨fb, 0, none⟩ = some (.func (.func 177) #[] #[.pointer (some ⟨g, 0, none⟩), .pointer (some ⟨fb, 0, none⟩)]))
      (first | (go_keep; done) | (exact ⟨q3.cell 0, hL3.fn.cell 0⟩))
      ((refine (HIA.out x A2 (m + 1) c2 (xs ++ [true]) _ (HXA.out.drewN 1) (HL.out.drewN 1) (by rw [HNA.out]; omega)).mono ?_; rintro e W3 ⟨u3, A3, c3, rfl, hL3, k3, z3⟩; have q3 := k3 _ _ (HQ.out.drewN 1)))
    have p1 : W3.cell? ⟨q, 1, none⟩ = some (.pointer y) := q3.cell 1
    have f1 : W3.cell? ⟨fb, 0, none⟩ = some (.func (.func 177) #[] #[.pointer (some ⟨g, 0, none⟩), .pointer (some ⟨fb, 0, none⟩)]) := hL3.fn.cell 0
    have HL3 := Lib.hid hL3
    have HQ3 := Lib.hid q3
    have HK3 := Lib.hid (HK1.out.trans k3.undrew)
    have HYB3 := Lib.hid (HYB.out.kt k3.undrew)
    have HZ3 := Lib.hid (HZ.out.trans (below_undrew z3))
    clear hL3 q3 k3 z3 c0 c1
    go_wp2_with fail
    go_region_held3 (fun w' => w'.cell? ⟨q, 1, none⟩ = some (.pointer y) ∧ w'.cell? ⟨fb, 0, none⟩ = some (.func (.func 177) #[] #[.pointer (some ⟨g, 0, none⟩), .pointer (some ⟨fb, 0, none⟩)]))
      (first | (go_keep; done) | (exact ⟨q4.cell 1, hL4.fn.cell 0⟩))
      ((refine (HIB.out y A3 (m + 1 + a.nodes) c3 (xs ++ [true] ++ a.enc) _ (HYB3.out.drewN 1) (HL3.out.drewN 1) (by rw [HNA.out, HNB.out]; omega)).mono ?_; rintro e W4 ⟨u4, A4, c4, rfl, hL4, k4, z4⟩; have q4 := k4 _ _ (HQ3.out.drewN 1)))
    have HF : Hid (VisitP w lo g fb m xs (.nd a b) (.returned (.tuple #[])) W4) := Lib.hid (by
      refine ⟨_, A4, c4, rfl, ?_, HK3.out.trans k4.undrew, HZ3.out.trans (below_undrew z4)⟩
      have e1 : m + 1 + a.nodes + b.nodes = m + (Tr.nd a b).nodes := by rw [Tr.nodes]; omega
      have e2 : xs ++ [true] ++ a.enc ++ b.enc = xs ++ (Tr.nd a b).enc := by simp [Tr.enc]
      rw [← e1, ← e2]
      exact hL4)
    clear hL4 k4 z4 q4
    go_wp2_with fail
    go_end0
    exact HF.out
end Go.Proofs.Ytfheepjfpgiaoaa

/-
  Contracts of impl's (*tree).list and checked.
-/
namespace Go.Proofs.Ytfheepjfpgiaoaa
open Go.RowKit

theorem wpList_make_Own0 {P : Program} {t e : TypeId} {s bytes : Nat} {z : Value} {ops : Array Oper} {rest : List Oper} {o : Oper} {a : Act} {Q : Exit → Act → World → Prop} (hgd : o.guard = none) (l c : Operand) (ho : o.op = Op.makeSlice t l c)
    (E : Elem P t e s bytes z) {w : World} {kl kc : IntKind} {n : Nat} (hl : a.eval l = .int kl 0) (hc : a.eval c = .int kc (n : Int)) (hb : bytes * n ≤ 281474976710656) (hm : n ≤ maxLen) {lo : Nat} (hlo : lo ≤ w.heap.size)
    (hK : ∀ w2, Own w2 lo e s (some ⟨w.heap.size, 0, none⟩) 0 n [] → Below w.heap.size w w2 → w2.heap.size = w.heap.size + 1 → wpList P ops Q rest (a.put o.dst (.slice (some ⟨w.heap.size, 0, none⟩) 0 n)) w2) : wpList P ops Q (o :: rest) a w := by
  refine wpList_plain hgd fun K hK' => ?_
  obtain ⟨i, hi, hz, hsz, hby⟩ := info_parts E.info
  subst hsz
  subst hby
  have h63' : (n : Int) ≤ 9223372036854775807 := by have h := hm; simp [maxLen] at h; omega
  have hb' : (i.bytes : Int) * (n : Int) ≤ 281474976710656 := by
    have h : ((i.bytes * n : Nat) : Int) ≤ 281474976710656 := by omega
    rwa [Int.natCast_mul] at h
  have hr := run_make (P := P) w t e i z E.under hi hz kl kc 0 n (by omega) (by omega) hb' h63'
  simp only [Int.toNat_natCast] at hr
  unfold Oper.wp
  simp [execOp, ho, hl, hc, hr, Result.andThen]
  refine hK' _ _ (hK _ ⟨by simp, .inr ⟨w.heap.size, 0, _, rfl, hlo, heap_alloc_new w _, Nat.zero_le _, hm, by simp [size_madeCells], fun k hk => ?_⟩⟩ ((Below.refl _ _).alloc (Nat.le_refl _) _) (by simp))
  simp at hk
/-- A list of nodes in new memory. -/
def NewBoI (w : World) (xs : List Bool) (e : Ending) (w' : World) : Prop := ∃ A c, e = .returned (.slice A xs.length c) ∧ Own w' w.heap.size 4 1 A xs.length c (bools xs) ∧ Below w.heap.size w w'
set_option maxRecDepth 100000 in
set_option maxHeartbeats 4000000 in
theorem list_any (t : Tr) (p : Option Addr) (w : World) (h : TrAt w t p) (hn : t.nodes ≤ 1000000) : Calls Try.prog 92 #[.pointer p] w (NewBoI w t.enc) := by
  have hmf : ∀ (fn : Fn) (first cap : Array Value) (w : World), (Instr.makeFunc fn first cap).run Try.prog w = .ok (.func fn first cap) w := fun _ _ _ _ => rfl
  have hcall := Try.call177
  have HN := Lib.hid (nodesOf_any t p w h)
  obtain ⟨n, hnn⟩ : ∃ n, t.nodes = n := ⟨_, rfl⟩
  rw [hnn] at HN hn
  have HNN := Lib.hid hnn
  have HP := Lib.hid h
  clear hnn h
  go_enter Try.func92, Try.ntmps92
  go_upto_region 1 with fail
  go_wp2_with (first | (go_at_call 176; refine HN.out.mono ?_; rintro e w' ⟨rfl, rfl⟩) | (at_make; refine wpList_make_Own0 rfl (.const (.int .i64 0)) (.tmp 6) rfl elBool (n := n) (lo := w.heap.size) rfl rfl (by omega) (by unfold maxLen; omega) (Nat.le_refl _) ?_; intro w2 ho2 hb2 hs2))
  obtain ⟨V, hV⟩ : ∃ V, V = (w2.alloc (.cells #[.slice (some ⟨w.heap.size, 0, none⟩) 0 n] 43)).alloc (.cells #[.func (.func 177) #[] #[.pointer (some ⟨w.heap.size + 1, 0, none⟩), .pointer (some ⟨w.heap.size + 1 + 1, 0, none⟩)]] 227) := ⟨_, rfl⟩
  rw [← hV]
  have s2 : (w2.alloc (.cells #[.slice (some ⟨w.heap.size, 0, none⟩) 0 n] 43)).heap.size = w.heap.size + 1 + 1 := by simp [hs2]
  have b0 := Blk.new w2 43 #[.slice (some ⟨w.heap.size, 0, none⟩) 0 n]
  have b1 := Blk.new (w2.alloc (.cells #[.slice (some ⟨w.heap.size, 0, none⟩) 0 n] 43)) 227 #[.func (.func 177) #[] #[.pointer (some ⟨w.heap.size + 1, 0, none⟩), .pointer (some ⟨w.heap.size + 1 + 1, 0, none⟩)]]
  rw [s2] at b1
  rw [hs2] at b0
  have yV : Below w.heap.size w V := by rw [hV]; exact ((hb2.alloc (by omega) _).alloc (by omega) _)
  have hI : ListI V w.heap.size (w.heap.size + 1) (w.heap.size + 1 + 1) (some ⟨w.heap.size, 0, none⟩) 0 n [] := by
    rw [hV]
    exact ⟨b0.alloc _, (ho2.alloc _).alloc _, b1, by omega, by simp [hs2]; omega⟩
  have HY := Lib.hid yV
  have HVV := Lib.hid (visit_any w.heap.size (w.heap.size + 1) (w.heap.size + 1 + 1) t p _ 0 n [] V (HP.out.below yV) hI (by rw [HNN.out]; omega))
  clear hV s2 b0 b1 yV hI ho2 hb2 hs2
  refine HVV.out.mono ?_
  rintro e W3 ⟨u, A3, c3, rfl, h3, _, z3⟩
  have g3 : W3.cell? ⟨w.heap.size + 1, 0, none⟩ = some (.slice A3 (0 + t.nodes) c3) := h3.out.cell 0
  have HO := Lib.hid h3.own
  have HZ := Lib.hid z3
  rw [HNN.out, Nat.zero_add] at g3
  clear h3 z3
  go_wp2_with fail
  go_ret
  have o3 := HO.out
  rw [HNN.out, Nat.zero_add, List.nil_append] at o3
  have e1 : t.enc.length = n := by rw [enc_len]; exact HNN.out
  exact ⟨A3, c3, by rw [e1]; rfl, by rw [e1]; exact o3, HY.out.trans HZ.out⟩
/-- The nodes of a tree, unless there are more than 2000. -/
def chkF (t : Tr) : List Bool × Int := if t.nodes ≤ 2000 then (t.enc, 0) else ([], 5)
theorem checked_any (t : Tr) (p : Option Addr) (w : World) (h : TrAt w t p) (hn : t.nodes ≤ 1000000) : Calls Try.prog 105 #[.pointer p] w (NewBo2 w (chkF t)) := by
  have HN := Lib.hid (nodesOf_any t p w h)
  have HLI := Lib.hid (list_any t p w h hn)
  by_cases hle : t.nodes ≤ 2000
  · have HC : Hid (chkF t = (t.enc, 0)) := Lib.hid (by unfold chkF; rw [if_pos hle])
    obtain ⟨n, hnn⟩ : ∃ n, t.nodes = n := ⟨_, rfl⟩
    rw [hnn] at HN hle
    have i1 : ¬ (n : Int) > 2000 := by omega
    clear hnn hn
    go_enter Try.func105, Try.ntmps105
    go_wp2_with (go_at_call 176; refine HN.out.mono ?_; rintro e w' ⟨rfl, rfl⟩)
    refine HLI.out.mono ?_
    rintro e W2 ⟨A, c, rfl, o, z⟩
    have HO := Lib.hid o
    have HZ := Lib.hid z
    clear o z
    go_wp2_with fail
    rw [HC.out]
    exact bodyPost_ret (v := .tuple #[.slice A t.enc.length c, .int .i64 0]) (by simp [results, Try.results105, go_sem]) rfl ⟨A, c, rfl, HO.out, HZ.out⟩
  · have HC : Hid (chkF t = ([], 5)) := Lib.hid (by unfold chkF; rw [if_neg hle])
    obtain ⟨n, hnn⟩ : ∃ n, t.nodes = n := ⟨_, rfl⟩
    rw [hnn] at HN hle
    have i1 : (n : Int) > 2000 := by omega
    clear hnn hn hle
    go_enter Try.func105, Try.ntmps105
    go_wp2_with (go_at_call 176; refine HN.out.mono ?_; rintro e w' ⟨rfl, rfl⟩)
    rw [HC.out]
    exact bodyPost_ret (v := .tuple #[.slice none 0 0, .int .i64 5]) (by simp [results, Try.results105, go_sem]) rfl ⟨none, 0, rfl, Own.nil, Below.refl _ _⟩
end Go.Proofs.Ytfheepjfpgiaoaa

/-
  runTrees' deferred function: what it does where nothing panicked, and where a value was too large.
-/
namespace Go.Proofs.Ytfheepjfpgiaoaa
open Go.RowKit

theorem idleT (p q r : Addr) (w : World) :
    CallsD Try.prog 153 #[.pointer (some p), .pointer (some q), .pointer (some r)] .returning w fun e u' w' => e = .returned (.tuple #[]) ∧ u' = .returning ∧ w' = w := by
  refine callsD_of_wpS Try.func153 rfl fun c₀ cs hu => ?_
  apply wpS_seq
  apply wpS_region
  simp [wpOpsS, go_sem, recoverD, hu, Try.ntmps153, Exit.thenS]
  refine wpS_of_wp ?_
  go_wp2_with fail
  cases c₀
  simp_all [bodyPostS, results, Try.results153]
set_option maxRecDepth 100000 in
theorem panicT (x y z : Nat) (v0 v1 v2 : Value) (w : World) (hx : Blk w x 2 #[v0]) (hy : Blk w y 4 #[v1]) (hz : Blk w z 2 #[v2]) (hxz : x ≠ z) :
    CallsD Try.prog 153 #[.pointer (some ⟨x, 0, none⟩), .pointer (some ⟨y, 0, none⟩), .pointer (some ⟨z, 0, none⟩)] (.panicking [{ v := .iface 226 (.agg #[]), recovered := false }]) w fun e u' w' =>
      e = .returned (.tuple #[]) ∧ u' = .panicking [{ v := .iface 226 (.agg #[]), recovered := true }] ∧ Blk w' x 2 #[.int .i64 0] ∧ Blk w' y 4 #[.bool false] ∧ Blk w' z 2 #[.int .i64 5] ∧ Hid (∀ lo w0, Below lo w0 w → lo ≤ x → lo ≤ y → lo ≤ z → Below lo w0 w') ∧ Hid (∀ b t cs, Blk w b t cs → t ≠ 2 → t ≠ 4 → Blk w' b t cs) := by
  have hxy : x ≠ y := hx.ne hy (by decide)
  have hyz : y ≠ z := hy.ne hz (by decide)
  have x0 : w.cell? ⟨x, 0, none⟩ = some v0 := hx.cell 0
  have y0 : w.cell? ⟨y, 0, none⟩ = some v1 := hy.cell 0
  have z0 : w.cell? ⟨z, 0, none⟩ = some v2 := hz.cell 0
  have fx := hx.frozen 0
  have fy := hy.frozen 0
  have fz := hz.frozen 0
  refine callsD_of_wpS Try.func153 rfl fun c₀ cs hu => ?_
  apply wpS_seq
  apply wpS_region
  simp [wpOpsS, go_sem, recoverD, hu, Try.ntmps153, Exit.thenS]
  refine wpS_of_wp ?_
  obtain ⟨W3, hW3⟩ : ∃ W3, W3 = ((w.setCell ⟨x, 0, none⟩ (.int .i64 0)).setCell ⟨y, 0, none⟩ (.bool false)).setCell ⟨z, 0, none⟩ (.int .i64 5) := ⟨_, rfl⟩
  have hx3 : Blk W3 x 2 #[.int .i64 0] := by
    rw [hW3]
    exact ((hx.set_ 0 (.int .i64 0)).far (p := ⟨y, 0, none⟩) hxy (.bool false)).far (p := ⟨z, 0, none⟩) hxz (.int .i64 5)
  have hy3 : Blk W3 y 4 #[.bool false] := by
    rw [hW3]
    exact ((hy.far (p := ⟨x, 0, none⟩) (Ne.symm hxy) (.int .i64 0)).set_ 0 (.bool false)).far (p := ⟨z, 0, none⟩) hyz (.int .i64 5)
  have hz3 : Blk W3 z 2 #[.int .i64 5] := by
    rw [hW3]
    exact ((hz.far (p := ⟨x, 0, none⟩) (Ne.symm hxz) (.int .i64 0)).far (p := ⟨y, 0, none⟩) (Ne.symm hyz) (.bool false)).set_ 0 (.int .i64 5)
  have hbel : ∀ lo w0, Below lo w0 w → lo ≤ x → lo ≤ y → lo ≤ z → Below lo w0 W3 := fun lo w0 h h1 h2 h3 => by
    rw [hW3]
    exact ((h.setCell (p := ⟨x, 0, none⟩) h1 _).setCell (p := ⟨y, 0, none⟩) h2 _).setCell (p := ⟨z, 0, none⟩) h3 _
  have hty : ∀ b t cs, Blk w b t cs → t ≠ 2 → t ≠ 4 → Blk W3 b t cs := fun b t cs hb h1 h2 => by
    rw [hW3]
    exact ((hb.far (p := ⟨x, 0, none⟩) (hb.ne hx h1) _).far (p := ⟨y, 0, none⟩) (hb.ne hy h2) _).far (p := ⟨z, 0, none⟩) (hb.ne hz h1) _
  have HF := Lib.hid (⟨hx3, hy3, hz3, Lib.hid hbel, Lib.hid hty⟩ : _ ∧ _ ∧ _ ∧ _ ∧ _)
  have HW3 := Lib.hid hW3
  clear hx3 hy3 hz3 hbel hty hx hy hz hW3
  go_wp2_with fail
  rw [← HW3.out]
  have HF2 := HF.out
  cases c₀
  simp_all [bodyPostS, results, Try.results153]
end Go.Proofs.Ytfheepjfpgiaoaa

/-
  Contract of impl's runTrees.
-/
namespace Go.Proofs.Ytfheepjfpgiaoaa
open Go.RowKit

/-- Cells of boxes that are no nodes and no slice of pointers are written. -/
theorem StOwn.setBox {w : World} {lo : Nat} {SA : Option Addr} {sc g i : Nat} {s : List Tr} {t : TypeId} {cur : Array Value} (h : StOwn w lo SA sc s) (hb : Blk w g t cur) (h1 : t ≠ 224) (h2 : t ≠ 124) (u : Value) : StOwn (w.setCell ⟨g, i, none⟩ u) lo SA sc s := by
  obtain ⟨ps, e1, e2, h3, h4⟩ := h
  exact ⟨ps, e1, e2, h3.far (p := ⟨g, i, none⟩) (hb.apt h3 h2) u, fun k t hk => by obtain ⟨p, e, ht⟩ := h4 k t hk; exact ⟨p, e, ht.kt (KT.setCell hb h1 u)⟩⟩
theorem WmI.setBox {w0 w : World} {g x j : Nat} {PA : Option Addr} {n pc : Nat} {ts : List Ce} {SA : Option Addr} {sc : Nat} {s : List Tr} {i : Nat} {LA : Option Addr} {lc : Nat} {L : List Nat} {cur : Array Value} (h : WmI w0 w g PA n pc ts SA sc s i LA lc L) (hb : Blk w x 2 cur) (hx : w0.heap.size ≤ x) (u : Value) : WmI w0 (w.setCell ⟨x, j, none⟩ u) g PA n pc ts SA sc s i LA lc L := by
  have hs : StOwn (w.setCell ⟨x, j, none⟩ u) w0.heap.size SA sc s := StOwn.setBox h.store hb (by decide) (by decide) u
  exact ⟨h.base.setCell (p := ⟨x, j, none⟩) hx _, h.prog, h.glo, h.box.far (p := ⟨x, j, none⟩) (h.box.ne hb (by decide)) _, hs, h.loops.far (p := ⟨x, j, none⟩) (hb.apt h.loops (by decide)) _⟩
/-- What a run leaves. -/
def RunT (w0 : World) (SA : Option Addr) (sc : Nat) (r : Option (List Tr × Nat × Bool)) (e : Ending) (w' : World) : Prop :=
  Below w0.heap.size w0 w' ∧ match r with
  | some (s, k, d) => e = .returned (.tuple #[.int .i64 (k : Int), .bool d, .int .i64 0]) ∧ StOwn w' w0.heap.size SA sc s
  | none => e = .returned (.tuple #[.int .i64 0, .bool false, .int .i64 5]) ∧ ∃ s, StOwn w' w0.heap.size SA sc s
theorem Rel.next {l : List Cmd} {L : List Nat} {S : List Pg} {i : Nat} {p : Pg} (h : Rel l L S i p) (hd : doneW p S = false) : (normW p S).1 ≠ .done := by
  cases h with
  | base h _ _ =>
    cases p with
    | done => cases hd
    | set v e r => simp [normW]
    | wh e b r => simp [normW]
  | loop h _ _ _ _ =>
    cases p with
    | done => simp [normW]
    | set v e r => simp [normW]
    | wh e b r => simp [normW]
theorem step_nodes {p : Pg} {S : List Pg} {s : List Tr} (hs : ∀ t ∈ s, t.nodes ≤ 2000) {p' : Pg} {S' : List Pg} {s' : List Tr} (h : stepW p S s = some (p', S', s')) : ∀ t ∈ s', t.nodes ≤ 2000 := by
  cases p with
  | done => cases h; exact hs
  | set v e r =>
    have h1 : (e.ev s).map (fun x => (r, S, s.set v x)) = some (p', S', s') := h
    cases hx : e.ev s with
    | none => rw [hx] at h1; cases h1
    | some x =>
      rw [hx] at h1
      cases h1
      intro t ht
      rcases List.mem_or_eq_of_mem_set ht with h2 | h2
      · exact hs t h2
      · rw [h2]; exact ev_nodes hs e x hx
  | wh e b r =>
    have h1 : (e.ev s).map (fun x => if x = .nil then (r, S, s) else (b, .wh e b r :: S, s)) = some (p', S', s') := h
    cases hx : e.ev s with
    | none => rw [hx] at h1; cases h1
    | some x =>
      rw [hx] at h1
      have h2 : (if x = .nil then (r, S, s) else (b, .wh e b r :: S, s)) = (p', S', s') := Option.some.inj h1
      split at h2 <;> (cases h2; exact hs)
theorem goW_done {f n : Nat} {p : Pg} {S : List Pg} {s : List Tr} (h : doneW p S = true) : goW f n p S s = some (s, n, true) := by
  cases f with
  | zero => rw [goW, h]
  | succ f => rw [goW, if_pos h]
theorem goW_zero {n : Nat} {p : Pg} {S : List Pg} {s : List Tr} (h : doneW p S = false) : goW 0 n p S s = some (s, n, false) := by rw [goW, h]
theorem goW_none {f n : Nat} {p : Pg} {S : List Pg} {s : List Tr} (h : doneW p S = false) (hs : stepW (normW p S).1 (normW p S).2 s = none) : goW (f + 1) n p S s = none := by rw [goW, if_neg (by rw [h]; decide), hs]
theorem goW_some {f n : Nat} {p p' : Pg} {S S' : List Pg} {s s' : List Tr} (h : doneW p S = false) (hs : stepW (normW p S).1 (normW p S).2 s = some (p', S', s')) : goW (f + 1) n p S s = goW f (n + 1) p' S' s' := by rw [goW, if_neg (by rw [h]; decide), hs]
/-- The three results are written. -/
theorem RunT.of {w0 w w' : World} {SA : Option Addr} {sc : Nat} {s : List Tr} {x k : Nat} {d : Bool} {v0 v1 v2 : Value} (hz : Below w0.heap.size w0 w) (hl : w0.heap.size ≤ x) (h0 : Blk w x 2 #[v0]) (h1 : Blk w (x + 1) 4 #[v1]) (h2 : Blk w (x + 1 + 1) 2 #[v2]) (hs : StOwn w w0.heap.size SA sc s)
    (hw : w' = ((w.setCell ⟨x, 0, none⟩ (.int .i64 (k : Int))).setCell ⟨x + 1, 0, none⟩ (.bool d)).setCell ⟨x + 1 + 1, 0, none⟩ (.int .i64 0)) :
    Below w0.heap.size w0 w' ∧ StOwn w' w0.heap.size SA sc s ∧ Blk w' x 2 #[.int .i64 (k : Int)] ∧ Blk w' (x + 1) 4 #[.bool d] ∧ Blk w' (x + 1 + 1) 2 #[.int .i64 0] := by
  have n1 : x ≠ x + 1 := by omega
  have n2 : x ≠ x + 1 + 1 := by omega
  have n3 : x + 1 ≠ x + 1 + 1 := by omega
  have h1a := h1.far (p := ⟨x, 0, none⟩) (Ne.symm n1) (.int .i64 (k : Int))
  have h2a := h2.far (p := ⟨x, 0, none⟩) (Ne.symm n2) (.int .i64 (k : Int))
  have h2b := h2a.far (p := ⟨x + 1, 0, none⟩) (Ne.symm n3) (.bool d)
  subst hw
  refine ⟨((hz.setCell (p := ⟨x, 0, none⟩) hl _).setCell (p := ⟨x + 1, 0, none⟩) (by show _ ≤ x + 1; omega) _).setCell (p := ⟨x + 1 + 1, 0, none⟩) (by show _ ≤ x + 1 + 1; omega) _, ((hs.setBox h0 (by decide) (by decide) _).setBox h1a (by decide) (by decide) _).setBox h2b (by decide) (by decide) _, ?_, ?_, ?_⟩
  · exact ((h0.set_ 0 _).far (p := ⟨x + 1, 0, none⟩) n1 _).far (p := ⟨x + 1 + 1, 0, none⟩) n2 _
  · exact (h1a.set_ 0 _).far (p := ⟨x + 1 + 1, 0, none⟩) n3 _
  · exact h2b.set_ 0 _
def leftT (bud b : Nat) (w : World) : Nat :=
  match w.cell? ⟨b, 0, none⟩ with
  | some (.int _ v) => ((bud : Int) - v).toNat
  | _ => 0
set_option maxRecDepth 100000 in
set_option maxHeartbeats 4000000 in
theorem runTrees_any (w0 w : World) (PA : Option Addr) (n pc : Nat) (ts : List Ce) (SA : Option Addr) (sc : Nat) (s0 : List Tr) (bud : Nat) (pg : Pg) (hz0 : Below w0.heap.size w0 w) (hx : SC w0 PA n ts) (hn : n ≤ 1000) (hpg : cmds ts = pg.enc) (hok : pg.ok) (hst : StOwn w w0.heap.size SA sc s0) (hs0 : ∀ t ∈ s0, t.nodes ≤ 2000) (hb : bud ≤ 1000000) :
    Calls Try.prog 71 #[.slice PA n pc, .slice SA 6 sc, .int .i64 (bud : Int)] w (RunT w0 SA sc (goW bud 0 pg [] s0)) := by
  obtain ⟨R, hR⟩ : ∃ R, goW bud 0 pg [] s0 = R := ⟨_, rfl⟩
  rw [hR]
  have hmf : ∀ (fn : Fn) (first cap : Array Value) (w : World), (Instr.makeFunc fn first cap).run Try.prog w = .ok (.func fn first cap) w := fun _ _ _ _ => rfl
  obtain ⟨W1, hW_⟩ : ∃ W, W = ((w.alloc (.cells #[.int .i64 0] 2)).alloc (.cells #[.bool false] 4)).alloc (.cells #[.int .i64 0] 2) := ⟨_, rfl⟩
  have s_1 : (w.alloc (.cells #[.int .i64 0] 2)).heap.size = w.heap.size + 1 := by simp
  have s_2 : ((w.alloc (.cells #[.int .i64 0] 2)).alloc (.cells #[.bool false] 4)).heap.size = w.heap.size + 1 + 1 := by simp
  have b0 : Blk W1 w.heap.size 2 #[.int .i64 0] := by rw [hW_]; exact ((Blk.new w _ _).alloc _).alloc _
  have b1 : Blk W1 (w.heap.size + 1) 4 #[.bool false] := by rw [hW_, ← s_1]; exact (Blk.new _ _ _).alloc _
  have b2 : Blk W1 (w.heap.size + 1 + 1) 2 #[.int .i64 0] := by rw [hW_, ← s_2]; exact Blk.new _ _ _
  have y1 : Below w.heap.size w W1 := by rw [hW_]; exact (((Below.refl _ _).alloc (Nat.le_refl _) _).alloc (by simp) _).alloc (by simp; omega) _
  have HW1 := Lib.hid hW_
  clear hW_ s_1 s_2
  obtain ⟨x, hxx⟩ : ∃ x, x = w.heap.size := ⟨_, rfl⟩
  have hlow := hz0.size
  have hz1 : Below w0.heap.size w0 W1 := hz0.trans (y1.mono hlow)
  obtain ⟨W2, hW_⟩ : ∃ W_, W_ = W1.alloc (.cells #[.slice PA n pc, .slice SA 6 sc, .int .i64 0, .slice none 0 0] 199) := ⟨_, rfl⟩
  have bm : Blk W2 W1.heap.size 199 #[.slice PA n pc, .slice SA 6 sc, .int .i64 0, .slice none 0 0] := by rw [hW_]; exact Blk.new W1 _ _
  have z2 : Below W1.heap.size W1 W2 := by rw [hW_]; exact (Below.refl _ _).alloc (Nat.le_refl _) _
  have HW2 := Lib.hid hW_
  clear hW_
  have hW1 : W1.heap.size = w.heap.size + 1 + 1 + 1 := by rw [HW1.out]; simp
  have hM : WmI w0 W2 W1.heap.size PA n pc ts SA sc s0 0 none 0 [] := ⟨hz1.trans (z2.mono hz1.size), hx, hz1.size, bm, hst.below (y1.trans (z2.mono y1.size)), Own.nil⟩
  have c0 := b0.below' z2
  have c1 := b1.below' z2
  have c2 := b2.below' z2
  have HM := Lib.hid hM
  have HSZ := Lib.hid hW1
  have HLOW := Lib.hid hlow
  go_enter_defers Try.func71, Try.ntmps71
  go_upto_region 1 with fail
  rw [← HW1.out]
  clear b0 b1 b2 bm hst hM z2 y1 hW1 hxx hz1
  go_upto_region 2 with fail
  rw [← HW2.out]
  generalize hgv : W1.heap.size = gv at *
  have HGV := Lib.hid hgv
  clear hgv
  have hcall := Try.call153
  go_wp2_with fail
  go_loopw [] (fun wr => ∃ (f nn : Nat) (p : Pg) (S : List Pg) (s : List Tr) (i : Nat) (LA : Option Addr) (lc : Nat) (L : List Nat), nn + f = bud ∧ Hid (WmI w0 wr gv PA n pc ts SA sc s i LA lc L) ∧ Hid (Rel (cmds ts) L S i p) ∧ Hid (Blk wr w.heap.size 2 #[.int .i64 (nn : Int)]) ∧ Hid (Blk wr (w.heap.size + 1) 4 #[.bool false]) ∧ Hid (Blk wr (w.heap.size + 1 + 1) 2 #[.int .i64 0]) ∧ Hid (∀ t ∈ s, t.nodes ≤ 2000) ∧ Hid (goW f nn p S s = R)) (fun wr => leftT bud w.heap.size wr)
  case atStart => exact ⟨bud, 0, pg, [], s0, 0, none, 0, [], by omega, HM, Lib.hid (.base (by rw [List.drop_zero]; exact hpg) (Nat.zero_le _) hok), Lib.hid c0, Lib.hid c1, Lib.hid c2, Lib.hid hs0, Lib.hid hR⟩
  case round =>
    obtain ⟨f, nn, p, S, s, i, LA, lc, L, hnf, HI, HRL, HB0, HB1, HB2, HSN, HG⟩ := hrel
    clear HM hx c0 c1 c2 hs0 hR hz0
    have HE := Lib.hid (ended_any w0 gv PA n pc ts SA sc s i LA lc L p S wr HI.out HRL.out hn)
    cases hd : doneW p S with
    | true =>
          have HD := Lib.hid hd
          rw [hd] at HE
          clear hd
          go_wp2_with fail
          refine HE.out.mono ?_
          rintro e W3 ⟨rfl, i3, LA3, lc3, L3, h3, hr3, kx⟩
          have d0 := kx _ _ _ HB0.out (by decide) (by decide) (by decide)
          have d1 := kx _ _ _ HB1.out (by decide) (by decide) (by decide)
          have d2 := kx _ _ _ HB2.out (by decide) (by decide) (by decide)
          have a0 : W3.cell? ⟨w.heap.size, 0, none⟩ = some (.int .i64 (nn : Int)) := d0.cell 0
          have b0 : W3.cell? ⟨(w.heap.size + 1), 0, none⟩ = some (.bool false) := d1.cell 0
          have c0 : W3.cell? ⟨(w.heap.size + 1 + 1), 0, none⟩ = some (.int .i64 0) := d2.cell 0
          have fa0 := d0.frozen 0
          have fb0 := d1.frozen 0
          have fc0 := d2.frozen 0
          obtain ⟨W6, hW6⟩ : ∃ W6, W6 = ((W3.setCell ⟨w.heap.size, 0, none⟩ (.int .i64 (nn : Int))).setCell ⟨w.heap.size + 1, 0, none⟩ (.bool true)).setCell ⟨w.heap.size + 1 + 1, 0, none⟩ (.int .i64 0) := ⟨_, rfl⟩
          have HF := Lib.hid (RunT.of (h3.base) HLOW.out d0 d1 d2 h3.store hW6)
          have HW6 := Lib.hid hW6
          have HRES : Hid (R = some (s, nn, true)) := Lib.hid (by rw [← HG.out]; exact goW_done HD.out)
          clear hW6 h3 hr3 kx
          go_wp2_with fail
          rw [← HW6.out]
          refine leaves_cons (f := 153) (args := #[.pointer (some ⟨w.heap.size, 0, none⟩), .pointer (some ⟨w.heap.size + 1, 0, none⟩), .pointer (some ⟨w.heap.size + 1 + 1, 0, none⟩)]) (by simp) (by simp [go_sem]) ?_
          refine (idleT _ _ _ _).mono ?_
          rintro e u' w'' ⟨rfl, rfl, rfl⟩
          obtain ⟨hz6, hs6, e0, e1, e2⟩ := HF.out
          have q0 : w''.cell? ⟨w.heap.size, 0, none⟩ = some (.int .i64 (nn : Int)) := e0.cell 0
          have q1 : w''.cell? ⟨w.heap.size + 1, 0, none⟩ = some (.bool true) := e1.cell 0
          have q2 : w''.cell? ⟨w.heap.size + 1 + 1, 0, none⟩ = some (.int .i64 0) := e2.cell 0
          have hfin : RunT w0 SA sc R (.returned (.tuple #[.int .i64 (nn : Int), .bool true, .int .i64 0])) w'' := by
            rw [HRES.out]
            exact ⟨hz6, rfl, hs6⟩
          simp [Leaves, settle, results, Try.results71, go_sem, q0, q1, q2]
          exact hfin
    | false =>
      have HD := Lib.hid hd
      have HNX := Lib.hid (HRL.out.next hd)
      rw [hd] at HE
      clear hd
      go_wp2_with fail
      refine HE.out.mono ?_
      rintro e W3 ⟨rfl, i3, LA3, lc3, L3, h3, hr3, kx⟩
      have d0 := kx _ _ _ HB0.out (by decide) (by decide) (by decide)
      have d1 := kx _ _ _ HB1.out (by decide) (by decide) (by decide)
      have d2 := kx _ _ _ HB2.out (by decide) (by decide) (by decide)
      have a0 : W3.cell? ⟨w.heap.size, 0, none⟩ = some (.int .i64 (nn : Int)) := d0.cell 0
      have b0 : W3.cell? ⟨(w.heap.size + 1), 0, none⟩ = some (.bool false) := d1.cell 0
      have c0 : W3.cell? ⟨(w.heap.size + 1 + 1), 0, none⟩ = some (.int .i64 0) := d2.cell 0
      have fa0 := d0.frozen 0
      have fb0 := d1.frozen 0
      have fc0 := d2.frozen 0
      cases f with
      | zero =>
          obtain rfl : nn = bud := by omega
          have i1 : ((nn : Int) == (nn : Int)) = true := by simp
          obtain ⟨W6, hW6⟩ : ∃ W6, W6 = ((W3.setCell ⟨w.heap.size, 0, none⟩ (.int .i64 (nn : Int))).setCell ⟨w.heap.size + 1, 0, none⟩ (.bool false)).setCell ⟨w.heap.size + 1 + 1, 0, none⟩ (.int .i64 0) := ⟨_, rfl⟩
          have HF := Lib.hid (RunT.of (h3.base) HLOW.out d0 d1 d2 h3.store hW6)
          have HW6 := Lib.hid hW6
          have HRES : Hid (R = some (s, nn, false)) := Lib.hid (by rw [← HG.out]; exact goW_zero HD.out)
          clear hW6 h3 hr3 kx
          go_wp2_with fail
          rw [← HW6.out]
          refine leaves_cons (f := 153) (args := #[.pointer (some ⟨w.heap.size, 0, none⟩), .pointer (some ⟨w.heap.size + 1, 0, none⟩), .pointer (some ⟨w.heap.size + 1 + 1, 0, none⟩)]) (by simp) (by simp [go_sem]) ?_
          refine (idleT _ _ _ _).mono ?_
          rintro e u' w'' ⟨rfl, rfl, rfl⟩
          obtain ⟨hz6, hs6, e0, e1, e2⟩ := HF.out
          have q0 : w''.cell? ⟨w.heap.size, 0, none⟩ = some (.int .i64 (nn : Int)) := e0.cell 0
          have q1 : w''.cell? ⟨w.heap.size + 1, 0, none⟩ = some (.bool false) := e1.cell 0
          have q2 : w''.cell? ⟨w.heap.size + 1 + 1, 0, none⟩ = some (.int .i64 0) := e2.cell 0
          have hfin : RunT w0 SA sc R (.returned (.tuple #[.int .i64 (nn : Int), .bool false, .int .i64 0])) w'' := by
            rw [HRES.out]
            exact ⟨hz6, rfl, hs6⟩
          simp [Leaves, settle, results, Try.results71, go_sem, q0, q1, q2]
          exact hfin
      | succ f =>
          have i1 : ((nn : Int) == (bud : Int)) = false := by simp; omega
          have HST := Lib.hid (step_any w0 gv PA n pc ts SA sc s i3 LA3 lc3 L3 _ _ W3 h3 hr3 hn HNX.out HSN.out)
          have hb3 := h3.base
          clear h3 hr3 HE
          go_wp2_with fail
          refine HST.out.mono ?_
          intro e W4 hSR
          cases hsw : stepW (normW p S).1 (normW p S).2 s with
          | none =>
            rw [hsw] at hSR
            obtain ⟨rfl, kx4, hz4, hst4⟩ := hSR
            have HRES : Hid (R = none) := Lib.hid (by rw [← HG.out]; exact goW_none HD.out hsw)
            have e0 := kx4 _ _ _ d0 (by decide) (by decide) (by decide)
            have e1 := kx4 _ _ _ d1 (by decide) (by decide) (by decide)
            have e2 := kx4 _ _ _ d2 (by decide) (by decide) (by decide)
            refine leaves_cons (f := 153) (args := #[.pointer (some ⟨w.heap.size, 0, none⟩), .pointer (some ⟨w.heap.size + 1, 0, none⟩), .pointer (some ⟨w.heap.size + 1 + 1, 0, none⟩)]) (by simp) (by simp [go_sem]) ?_
            refine (panicT w.heap.size (w.heap.size + 1) (w.heap.size + 1 + 1) _ _ _ W4 e0 e1 e2 (by omega)).mono ?_
            rintro e u' w'' ⟨rfl, rfl, f0, f1, f2, HZ, HTY⟩
            have hst6 := hst4.typed HTY.out
            have hz6 := HZ.out _ _ hz4 HLOW.out (by have := HLOW.out; omega) (by have := HLOW.out; omega)
            have q0 : w''.cell? ⟨w.heap.size, 0, none⟩ = some (.int .i64 0) := f0.cell 0
            have q1 : w''.cell? ⟨w.heap.size + 1, 0, none⟩ = some (.bool false) := f1.cell 0
            have q2 : w''.cell? ⟨w.heap.size + 1 + 1, 0, none⟩ = some (.int .i64 5) := f2.cell 0
            have hfin : RunT w0 SA sc R (.returned (.tuple #[.int .i64 0, .bool false, .int .i64 5])) w'' := by
              rw [HRES.out]
              exact ⟨hz6, rfl, s, hst6⟩
            simp [Leaves, settle, results, Try.results71, go_sem, q0, q1, q2]
            exact hfin
          | some r =>
            obtain ⟨p', S', s'⟩ := r
            rw [hsw] at hSR
            obtain ⟨⟨u, rfl⟩, i4, LA4, lc4, L4, h4, hr4, kx4⟩ := hSR
            have HG2 : Hid (goW f (nn + 1) p' S' s' = R) := Lib.hid (by rw [← HG.out]; exact (goW_some HD.out hsw).symm)
            have HSN2 := Lib.hid (step_nodes HSN.out hsw)
            have e0 := kx4 _ _ _ d0 (by decide) (by decide) (by decide)
            have e1 := kx4 _ _ _ d1 (by decide) (by decide) (by decide)
            have e2 := kx4 _ _ _ d2 (by decide) (by decide) (by decide)
            obtain ⟨n2, hn2⟩ : ∃ n2, nn + 1 = n2 := ⟨_, rfl⟩
            have w1 : IntKind.i64.wrap ((nn : Int) + 1) = (n2 : Int) := by rw [show ((nn : Int) + 1) = (n2 : Int) by omega]; exact IntWalk.i64_in _ (by omega)
            rw [hn2] at HG2
            have hnf2 : n2 + f = bud := by omega
            have HI5 := Lib.hid (h4.setBox e0 HLOW.out (j := 0) (.int .i64 (n2 : Int)))
            have n1 : w.heap.size ≠ w.heap.size + 1 := by omega
            have n3 : w.heap.size ≠ w.heap.size + 1 + 1 := by omega
            have HB05 := Lib.hid (e0.set_ 0 (.int .i64 (n2 : Int)))
            have HB15 := Lib.hid (e1.far (p := ⟨w.heap.size, 0, none⟩) (Ne.symm n1) (.int .i64 (n2 : Int)))
            have HB25 := Lib.hid (e2.far (p := ⟨w.heap.size, 0, none⟩) (Ne.symm n3) (.int .i64 (n2 : Int)))
            have HR5 := Lib.hid hr4
            have z0 : W4.cell? ⟨w.heap.size, 0, none⟩ = some (.int .i64 (nn : Int)) := e0.cell 0
            have zf := e0.frozen 0
            have HMS : Hid (leftT bud w.heap.size wr = f + 1) := Lib.hid (by
              unfold leftT
              rw [show wr.cell? ⟨w.heap.size, 0, none⟩ = some (.int .i64 (nn : Int)) from HB0.out.cell 0]
              show ((bud : Int) - (nn : Int)).toNat = _
              omega)
            have HMS2 : Hid (leftT bud w.heap.size (W4.setCell ⟨w.heap.size, 0, none⟩ (.int .i64 (n2 : Int))) = f) := Lib.hid (by
              unfold leftT
              rw [show (W4.setCell ⟨w.heap.size, 0, none⟩ (.int .i64 (n2 : Int))).cell? ⟨w.heap.size, 0, none⟩ = some (.int .i64 (n2 : Int)) from HB05.out.cell 0]
              show ((bud : Int) - (n2 : Int)).toNat = _
              omega)
            clear h4 hr4 kx4 e0 e1 e2 n1 n3 d0 d1 d2 a0 b0 c0 fa0 fb0 fc0 hn2 hsw
            go_wp2_with fail
            go_roundw
            case rel => exact ⟨f, n2, p', S', s', i4, LA4, lc4, L4, hnf2, HI5, HR5, HB05, HB15, HB25, HSN2, HG2⟩
            case measure => rw [HMS.out, HMS2.out]; omega
end Go.Proofs.Ytfheepjfpgiaoaa

/-
  Contracts of impl's runInput and RunWhile.
-/
namespace Go.Proofs.Ytfheepjfpgiaoaa
open Go.RowKit

theorem budgetOkW {b : Int} {r : Bool} (h : inB b 1 20000 = r) (w : World) : Calls Try.prog 70 #[.int .i64 b] w fun e w' => e = .returned (.bool r) ∧ w = w' := by
  go_enter Try.func70, Try.ntmps70
  go_wp2_with (go_at_call 109; refine (within_is h _).mono ?_; rintro e w' ⟨rfl, rfl⟩)
  go_ret
  exact ⟨rfl, rfl⟩
def InpP (w : World) (r : Option (List Tr × Nat × Bool)) (e : Ending) (w' : World) : Prop :=
  Below w.heap.size w w' ∧ match r with
  | some (s, k, d) => ∃ q, e = .returned (.tuple #[.pointer q, .int .i64 (k : Int), .bool d, .int .i64 0]) ∧ TrAt w' (s.getD 0 .nil) q
  | none => ∃ q, e = .returned (.tuple #[.pointer q, .int .i64 0, .bool false, .int .i64 5])
theorem StOwn.cell {w : World} {lo : Nat} {b off sc : Nat} {s : List Tr} (h : StOwn w lo (some ⟨b, off, none⟩) sc s) {k : Nat} (hk : k < 6) : ∃ p, w.cell? ⟨b, off + k, none⟩ = some (.pointer p) ∧ TrAt w (s.getD k .nil) p := by
  obtain ⟨ps, h1, h2, h3, h4⟩ := h
  obtain ⟨b', off', e, _, _, hc, _⟩ := h3.at_ (k := k) (by rw [List.length_map]; omega)
  cases e
  obtain ⟨p, h5, h6⟩ := h4 k (s[k]'(by omega)) (List.getElem?_eq_getElem (by omega))
  obtain ⟨h7, h8⟩ := List.getElem?_eq_some_iff.1 h5
  refine ⟨p, ?_, ?_⟩
  · rw [hc, List.getElem_map, h8]
  · rw [List.getD_eq_getElem?_getD, List.getElem?_eq_getElem (by omega : k < s.length)]; exact h6
/-- A slice of Bools in new memory, two numbers and a Bool. -/
def NewBo4 (w : World) (r : List Bool × Int × Bool × Int) (e : Ending) (w' : World) : Prop :=
  ∃ A c, e = .returned (.tuple #[.slice A r.1.length c, .int .i64 r.2.1, .bool r.2.2.1, .int .i64 r.2.2.2]) ∧ Own w' w.heap.size 4 1 A r.1.length c (bools r.1) ∧ Below w.heap.size w w'
end Go.Proofs.Ytfheepjfpgiaoaa

/-
  Contract of the reference's l05Budget.
-/
namespace Go.Proofs.Ytfheepjfpgiaoaa
open Go.RowKit

theorem l05Budget_any (b : Int) (w : World) : Calls Try.prog 64 #[.int .i64 b] w fun e w' => e = .returned (.bool (inB b 1 20000)) ∧ w = w' := by
  go_enter Try.func64, Try.ntmps64
  go_wp2_with (go_at_call 148; refine (l00In_any _ _ _ _).mono ?_; rintro e w' ⟨rfl, rfl⟩)
  go_ret
  exact ⟨rfl, rfl⟩
theorem l05Budget_is {b : Int} {v : Bool} (h : inB b 1 20000 = v) (w : World) : Calls Try.prog 64 #[.int .i64 b] w fun e w' => e = .returned (.bool v) ∧ w = w' := h ▸ l05Budget_any b w
end Go.Proofs.Ytfheepjfpgiaoaa

/-
  Contract of the reference's RunWhile.
-/
namespace Go.Proofs.Ytfheepjfpgiaoaa
open Go.RowKit

theorem NowS.first {w : World} {lo c : Nat} {A : Option Addr} {s : List Tr} (h : NowS w lo A c s) (h6 : 0 < s.length) : ∃ b off A1 c1, A = some ⟨b, off, none⟩ ∧ w.cell? ⟨b, off, none⟩ = some (.slice A1 (s.getD 0 .nil).enc.length c1) ∧ Own w lo 4 1 A1 (s.getD 0 .nil).enc.length c1 (bools (s.getD 0 .nil).enc) := by
  obtain ⟨us, h1, h2⟩ := h
  obtain ⟨b, off, e, _, _, hc, _⟩ := h2.1.at_ (k := 0) (by rw [List.length_map, nums_len h1]; exact h6)
  obtain ⟨u, hu, ex⟩ := nums_get h1 (List.getElem?_eq_getElem h6)
  have hd : s.getD 0 .nil = s[0] := by rw [List.getD_eq_getElem?_getD, List.getElem?_eq_getElem h6]; rfl
  obtain ⟨hl, he⟩ := List.getElem?_eq_some_iff.1 hu
  have ho := h2.2.1 u (List.mem_of_getElem? hu)
  rw [hd, ← ex]
  refine ⟨b, off, u.A, u.c, e, ?_, ho⟩
  have hc' : w.cell? ⟨b, off, none⟩ = some ((us.map Bl.val)[0]'(by rw [List.length_map]; exact hl)) := hc
  rw [hc', List.getElem_map, he]
  rfl
end Go.Proofs.Ytfheepjfpgiaoaa
