/-
  Contracts of the laws' helpers over Tag: szTag, toTag, eqTag, markTag.
-/
import Derived.Test.YtgkdfjbffnlnpaaHelpB
namespace Go.Proofs.Ytgkdfjbffnlnpaa
open Go.RowKit

def szTagF (left : Int) (n : Nat) (rows : List Nat) (m : Nat) : Int :=
  if szRows left (n :: rows) < 0 then -1 else szF (szRows left (n :: rows)) m
theorem szRows_le : ∀ (rows : List Nat) (left : Int), 0 ≤ left → left ≤ 1048576 → szRows left rows ≤ 1048576 ∧ -1 ≤ szRows left rows
  | [], left, h0, h1 => by simp [szRows]; omega
  | n :: r, left, h0, h1 => by
    rw [szRows]
    split
    · omega
    · exact szRows_le r (left - n) (by omega) (by omega)
theorem szRows_sum : ∀ (rows : List Nat) (left : Int), 0 ≤ szRows left rows → szRows left rows = left - rows.sum
  | [], left, _ => by simp [szRows]
  | n :: r, left, h => by
    rw [szRows] at h ⊢
    split at h
    · omega
    · rename_i hn
      rw [if_neg hn, szRows_sum r _ h]; simp; omega

set_option maxHeartbeats 400000 in
theorem szTag_any (d : Int) (A : Option Addr) (n c : Nat) (ts : List Sl) (B : Option Addr) (m k : Nat) (left : Int) (w : World) (hx : SII w A n ts) (hn : n ≤ 9223372036854775807) (hm : m ≤ 9223372036854775807) (hns : ∀ t ∈ ts, t.xs.length ≤ 9223372036854775807) (h0 : 0 ≤ left) (h1 : left ≤ 1048576) :
    Calls Try.prog 4 #[.agg #[.int .i64 d, .slice A n c, .slice B m k], .int .i64 left] w fun e w' => e = .returned (.int .i64 (szTagF left n (ts.map (fun t => t.xs.length)) m)) ∧ Below w.heap.size w w' := by
  have hx1 := hx.alloc (.cells #[.int .i64 d, .slice A n c, .slice B m k] 25)
  have hb1 : Below w.heap.size w (w.alloc (.cells #[.int .i64 d, .slice A n c, .slice B m k] 25)) := (Below.refl _ _).alloc (Nat.le_refl _) _
  obtain ⟨z, hz⟩ : ∃ z, z = szRows left (n :: ts.map (fun t => t.xs.length)) := ⟨_, rfl⟩
  have hb := szRows_le (n :: ts.map (fun t => t.xs.length)) left h0 h1
  rw [← hz] at hb
  have hz1 := hb.1
  have hz2 := hb.2
  have HZ := Lib.hid hz
  clear hz hb
  go_enter Try.func4, Try.ntmps4
  go_wp2_with fail
  refine (szII _ _ _ ts _ _ hx1 hn hns h0 h1).mono ?_
  rintro e w' ⟨rfl, rfl⟩
  rw [← HZ.out]
  by_cases hneg : z < 0
  · go_wp2_with fail
    go_ret
    exact ⟨ret_int (by unfold szTagF; rw [← HZ.out, if_pos hneg]), hb1⟩
  · go_wp2_with fail
    refine (szI _ _ _ _ _ hm (by omega) hz1).mono ?_
    rintro e w' ⟨rfl, rfl⟩
    obtain ⟨y, hy⟩ : ∃ y, y = szF z m := ⟨_, rfl⟩
    have hy2 : -1 ≤ y := by rw [hy]; unfold szF; split <;> omega
    have HY := Lib.hid hy
    rw [← hy]
    clear hy
    by_cases hyn : y < 0
    · go_wp2_with fail
      go_ret
      refine ⟨ret_int ?_, hb1⟩
      unfold szTagF; rw [← HZ.out, if_neg (by omega), ← HY.out]; omega
    · go_wp2_with fail
      go_ret
      refine ⟨ret_int ?_, hb1⟩
      unfold szTagF; rw [← HZ.out, if_neg (by omega), ← HY.out]

def ToTag (w : World) (d : Int) (n : Nat) (xss : List (List Int)) (hs : List Int) (e : Ending) (w' : World) : Prop :=
  ∃ A us B, e = .returned (.agg #[.int .i64 d, .slice A n n, .slice B hs.length hs.length]) ∧ OII w' w.heap.size 23 2 A n n us ∧ nums us = xss ∧ (∀ u ∈ us, u.c = u.xs.length) ∧
    Own w' w.heap.size 2 1 B hs.length hs.length (ints hs) ∧ (∀ u ∈ us, ∀ b, blk u.A = some b → blk B ≠ some b) ∧ Below w.heap.size w w'

set_option maxHeartbeats 1000000 in
theorem toTag_any (d : Int) (A : Option Addr) (n c : Nat) (ts : List Sl) (B : Option Addr) (m k : Nat) (hs : List Int) (w : World) (hx : SII w A n ts) (hy : SI w B m hs) (hn : n ≤ 1048576) (hm : m ≤ 1048576) (hns : ∀ t ∈ ts, t.xs.length ≤ 1048576) :
    Calls Try.prog 6 #[.agg #[.int .i64 d, .slice A n c, .slice B m k]] w (ToTag w d n (nums ts) hs) := by
  obtain ⟨W, hW⟩ : ∃ W, W = ((w.alloc (.cells #[.int .i64 d, .slice A n c, .slice B m k] 25)).alloc (.cells #[.int .i64 0, .slice none 0 0, .slice none 0 0] 29)).alloc (.cells #[.int .i64 d, .slice none 0 0, .slice none 0 0] 29) := ⟨_, rfl⟩
  have s1 : (w.alloc (.cells #[.int .i64 d, .slice A n c, .slice B m k] 25)).heap.size = w.heap.size + 1 := by simp
  have s2 : ((w.alloc (.cells #[.int .i64 d, .slice A n c, .slice B m k] 25)).alloc (.cells #[.int .i64 0, .slice none 0 0, .slice none 0 0] 29)).heap.size = w.heap.size + 1 + 1 := by simp
  have b0 : Blk W w.heap.size 25 #[.int .i64 d, .slice A n c, .slice B m k] := by rw [hW]; exact ((Blk.new w _ _).alloc _).alloc _
  have b1 : Blk W (w.heap.size + 1) 29 #[.int .i64 0, .slice none 0 0, .slice none 0 0] := by rw [hW, ← s1]; exact (Blk.new _ _ _).alloc _
  have b2 : Blk W (w.heap.size + 1 + 1) 29 #[.int .i64 d, .slice none 0 0, .slice none 0 0] := by rw [hW, ← s2]; exact Blk.new _ _ _
  have hbW : Below w.heap.size w W := by rw [hW]; exact (((Below.refl _ _).alloc (Nat.le_refl _) _).alloc (by simp) _).alloc (by simp; omega) _
  have HW := Lib.hid hW
  clear hW s1 s2
  have hxW := hx.below hbW
  have hyW := hy.below hbW
  go_enter Try.func6, Try.ntmps6
  go_wp2_with fail
  rw [← HW.out]
  clear HW
  refine (toII _ _ _ ts _ hxW hn hns).mono ?_
  rintro e w1 ⟨A1, us, rfl, ho1, hnu, hcu, hb1⟩
  have b0' := b0.below' hb1
  have b1' := b1.below' hb1
  have b2' := b2.below' hb1
  have hzW : w.heap.size + 1 + 1 < W.heap.size := b2.lt
  have q1 : w1.cell? ⟨w.heap.size + 1 + 1, 1, none⟩ = some (.slice none 0 0) := b2'.cell 1
  have q2 := b2'.frozen 1
  have q3 : w1.cell? ⟨w.heap.size, 2, none⟩ = some (.slice B m k) := b0'.cell 2
  have HNU := Lib.hid hnu
  have HCU := Lib.hid hcu
  clear hnu hcu b0 b1 b2
  go_wp2_with fail
  clear q1 q2 q3
  have b2s : Blk (w1.setCell ⟨w.heap.size + 1 + 1, 1, none⟩ (.slice A1 n n)) (w.heap.size + 1 + 1) 29 #[.int .i64 d, .slice A1 n n, .slice none 0 0] := b2'.set_ 1 _
  have b1s := b1'.far (p := ⟨w.heap.size + 1 + 1, 1, none⟩) (by simp) (.slice A1 n n)
  have ho1s : OII (w1.setCell ⟨w.heap.size + 1 + 1, 1, none⟩ (.slice A1 n n)) W.heap.size 23 2 A1 n n us := ho1.far (by intro b h; simp; omega) _
  have hbs : Below w.heap.size w (w1.setCell ⟨w.heap.size + 1 + 1, 1, none⟩ (.slice A1 n n)) := (hbW.trans (hb1.mono (by omega))).setCell (p := ⟨w.heap.size + 1 + 1, 1, none⟩) (by simp; omega) _
  have hWs : W.heap.size ≤ (w1.setCell ⟨w.heap.size + 1 + 1, 1, none⟩ (.slice A1 n n)).heap.size := by have := hb1.size; simpa [World.setCell] using this
  generalize w1.setCell ⟨w.heap.size + 1 + 1, 1, none⟩ (.slice A1 n n) = w2 at *
  clear b0' b1' b2' ho1 hb1 hbW
  refine (toI _ _ _ hs _ (hy.below hbs) hm).mono ?_
  rintro e w3 ⟨A3, rfl, ho3, hb3⟩
  have c1 := b1s.below' hb3
  have c2 := b2s.below' hb3
  have ho1t := ho1s.below hb3
  have q1 : w3.cell? ⟨w.heap.size + 1 + 1, 0, none⟩ = some (.int .i64 d) := c2.cell 0
  have q2 : w3.cell? ⟨w.heap.size + 1 + 1, 1, none⟩ = some (.slice A1 n n) := c2.cell 1
  have q3 : w3.cell? ⟨w.heap.size + 1 + 1, 2, none⟩ = some (.slice none 0 0) := c2.cell 2
  have q4 := c2.frozen 2
  have q5 : w3.cell? ⟨w.heap.size + 1, 0, none⟩ = some (.int .i64 0) := c1.cell 0
  have q6 : w3.cell? ⟨w.heap.size + 1, 1, none⟩ = some (.slice none 0 0) := c1.cell 1
  have q7 : w3.cell? ⟨w.heap.size + 1, 2, none⟩ = some (.slice none 0 0) := c1.cell 2
  have q8 := c1.frozen 0
  have q9 := c1.frozen 1
  have q10 := c1.frozen 2
  go_wp2_with fail
  have HS := Lib.hid (hy.len)
  have d1 : Blk ((((w3.setCell ⟨w.heap.size + 1 + 1, 2, none⟩ (.slice A3 m m)).setCell ⟨w.heap.size + 1, 0, none⟩ (.int .i64 d)).setCell ⟨w.heap.size + 1, 1, none⟩ (.slice A1 n n)).setCell ⟨w.heap.size + 1, 2, none⟩ (.slice A3 m m)) (w.heap.size + 1) 29 #[.int .i64 d, .slice A1 n n, .slice A3 m m] :=
    (((c1.far (p := ⟨w.heap.size + 1 + 1, 2, none⟩) (by simp) _).set_ 0 _).set_ 1 _).set_ 2 _
  have ho6 : OII ((((w3.setCell ⟨w.heap.size + 1 + 1, 2, none⟩ (.slice A3 m m)).setCell ⟨w.heap.size + 1, 0, none⟩ (.int .i64 d)).setCell ⟨w.heap.size + 1, 1, none⟩ (.slice A1 n n)).setCell ⟨w.heap.size + 1, 2, none⟩ (.slice A3 m m)) W.heap.size 23 2 A1 n n us :=
    (((ho1t.far (by intro b h; simp; omega) _).far (by intro b h; simp; omega) _).far (by intro b h; simp; omega) _).far (by intro b h; simp; omega) _
  have ho7 : Own ((((w3.setCell ⟨w.heap.size + 1 + 1, 2, none⟩ (.slice A3 m m)).setCell ⟨w.heap.size + 1, 0, none⟩ (.int .i64 d)).setCell ⟨w.heap.size + 1, 1, none⟩ (.slice A1 n n)).setCell ⟨w.heap.size + 1, 2, none⟩ (.slice A3 m m)) w2.heap.size 2 1 A3 m m (ints hs) :=
    (((ho3.far (fun e => by have := ho3.blk_ge _ e; simp at this; omega) _).far (fun e => by have := ho3.blk_ge _ e; simp at this; omega) _).far (fun e => by have := ho3.blk_ge _ e; simp at this; omega) _).far (fun e => by have := ho3.blk_ge _ e; simp at this; omega) _
  have hb7 : Below w.heap.size w ((((w3.setCell ⟨w.heap.size + 1 + 1, 2, none⟩ (.slice A3 m m)).setCell ⟨w.heap.size + 1, 0, none⟩ (.int .i64 d)).setCell ⟨w.heap.size + 1, 1, none⟩ (.slice A1 n n)).setCell ⟨w.heap.size + 1, 2, none⟩ (.slice A3 m m)) :=
    ((((hbs.trans (hb3.mono (by omega))).setCell (by simp; omega) _).setCell (by simp) _).setCell (by simp) _).setCell (by simp) _
  generalize (((w3.setCell ⟨w.heap.size + 1 + 1, 2, none⟩ (.slice A3 m m)).setCell ⟨w.heap.size + 1, 0, none⟩ (.int .i64 d)).setCell ⟨w.heap.size + 1, 1, none⟩ (.slice A1 n n)).setCell ⟨w.heap.size + 1, 2, none⟩ (.slice A3 m m) = w4 at *
  have r0 : w4.cell? ⟨w.heap.size + 1, 0, none⟩ = some (.int .i64 d) := d1.cell 0
  have r1 : w4.cell? ⟨w.heap.size + 1, 1, none⟩ = some (.slice A1 n n) := d1.cell 1
  have r2 : w4.cell? ⟨w.heap.size + 1, 2, none⟩ = some (.slice A3 m m) := d1.cell 2
  have hap : ∀ u ∈ us, ∀ b, blk u.A = some b → blk A3 ≠ some b := fun u hu b h1 h2 => by
    have h3 := (ho1s.2.1 u hu).blk_lt b h1
    have h4 := ho3.blk_ge b h2
    omega
  have hsl : hs.length = m := HS.out
  have hres : ToTag w d n (nums ts) hs (.returned (.agg #[.int .i64 d, .slice A1 n n, .slice A3 m m])) w4 :=
    ⟨A1, us, A3, by rw [hsl], ⟨ho6.1.mono (by omega), fun u hu => (ho6.2.1 u hu).mono (by omega), ho6.2.2⟩, HNU.out, HCU.out, by rw [hsl]; exact ho7.mono (by omega), hap, hb7⟩
  clear hsl
  exact bodyPost_ret (v := .agg #[.int .i64 d, .slice A1 n n, .slice A3 m m]) (by simp [results, Try.results6, go_sem, r0, r1, r2]) rfl hres

def sameTagB (d1 d2 : Int) (w1 w2 : List (List Int)) (h1 h2 : List Int) : Bool := decide (d1 = d2) && sameII w1 w2 && sameI h1 h2

set_option maxHeartbeats 1000000 in
theorem eqTag_any (d : Int) (A : Option Addr) (n c : Nat) (ts : List Sl) (B : Option Addr) (m k : Nat) (hs : List Int) (d' : Int) (A' : Option Addr) (n' c' : Nat) (ts' : List Sl) (B' : Option Addr) (m' k' : Nat) (hs' : List Int) (w : World)
    (hx : SII w A n ts) (hy : SI w B m hs) (hx' : SII w A' n' ts') (hy' : SI w B' m' hs') (hn : n ≤ 1048576) (hm : m ≤ 1048576) (hns : ∀ t ∈ ts, t.xs.length ≤ 1048576) :
    Calls Try.prog 10 #[.agg #[.int .i64 d, .slice A n c, .slice B m k], .agg #[.int .i64 d', .slice A' n' c', .slice B' m' k']] w fun e w' => e = .returned (.bool (sameTagB d d' (nums ts) (nums ts') hs hs')) ∧ Below w.heap.size w w' := by
  obtain ⟨W, hW⟩ : ∃ W, W = (w.alloc (.cells #[.int .i64 d, .slice A n c, .slice B m k] 29)).alloc (.cells #[.int .i64 d', .slice A' n' c', .slice B' m' k'] 29) := ⟨_, rfl⟩
  have s1 : (w.alloc (.cells #[.int .i64 d, .slice A n c, .slice B m k] 29)).heap.size = w.heap.size + 1 := by simp
  have b0 : Blk W w.heap.size 29 #[.int .i64 d, .slice A n c, .slice B m k] := by rw [hW]; exact (Blk.new w _ _).alloc _
  have b1 : Blk W (w.heap.size + 1) 29 #[.int .i64 d', .slice A' n' c', .slice B' m' k'] := by rw [hW, ← s1]; exact Blk.new _ _ _
  have hbW : Below w.heap.size w W := by rw [hW]; exact ((Below.refl _ _).alloc (Nat.le_refl _) _).alloc (by simp) _
  have HW := Lib.hid hW
  clear hW s1
  have q2 : W.cell? ⟨w.heap.size, 2, none⟩ = some (.slice B m k) := b0.cell 2
  have q3 : W.cell? ⟨w.heap.size + 1, 2, none⟩ = some (.slice B' m' k') := b1.cell 2
  cases hd : (d != d')
  · have hdd : d = d' := by simpa using hd
    have HD := Lib.hid hdd
    clear hdd
    go_enter Try.func10, Try.ntmps10
    go_wp2_with fail
    rw [← HW.out]
    clear hd
    refine (eqII _ _ _ _ _ _ ts ts' _ (hx.below hbW) (hx'.below hbW) (by omega) (fun t ht => by have := hns t ht; omega)).mono ?_
    rintro e w' ⟨rfl, q, rfl⟩
    cases h2 : sameII (nums ts) (nums ts')
    · have H2 := Lib.hid h2
      clear h2
      go_wp2_with fail
      go_ret
      exact ⟨ret_bool (by unfold sameTagB; rw [H2.out]; simp), below_drewN hbW _⟩
    · have H2 := Lib.hid h2
      clear h2
      go_wp2_with fail
      refine (eqI _ _ _ _ _ _ hs hs' _ ((hy.below hbW).drewN q) ((hy'.below hbW).drewN q) (by omega)).mono ?_
      rintro e w' ⟨rfl, q', rfl⟩
      cases h3 : sameI hs hs'
      · have H3 := Lib.hid h3
        clear h3
        go_wp2_with fail
        go_ret
        exact ⟨ret_bool (by unfold sameTagB; rw [H3.out]; simp), below_drewN hbW _⟩
      · have H3 := Lib.hid h3
        clear h3
        go_wp2_with fail
        go_ret
        exact ⟨ret_bool (by unfold sameTagB; rw [H2.out, H3.out]; simp [HD.out]), below_drewN hbW _⟩
  · have hdd : ¬ d = d' := by simpa using hd
    have HD := Lib.hid hdd
    clear hdd
    go_enter Try.func10, Try.ntmps10
    go_wp2_with fail
    rw [← HW.out]
    go_ret
    exact ⟨ret_bool (by unfold sameTagB; simp [HD.out]), hbW⟩

set_option maxHeartbeats 400000 in
theorem markTag_m (T : List TypeId) (d : Int) (A : Option Addr) (n c : Nat) (ts : List Sl) (B : Option Addr) (m k : Nat) (p : Int) (w : World) (lo hi : Nat) (hx : MkII w lo hi 23 2 A n c ts) (hy : Mk w lo hi 2 1 B m) (hT : 2 ∈ T) (hT2 : 23 ∉ T) (hT3 : 29 ∉ T)
    (hn : n ≤ 1048576) (hm : m ≤ 1048576) (ht : total ts ≤ 1048576) (h0 : 0 ≤ p) (h1 : p ≤ 9223372036850000000) :
    Calls Try.prog 11 #[.agg #[.int .i64 d, .slice A n c, .slice B m k], .int .i64 p] w (MarkP T w lo hi (total ts + m) p) := by
  obtain ⟨W, hW⟩ : ∃ W, W = w.alloc (.cells #[.int .i64 d, .slice A n c, .slice B m k] 29) := ⟨_, rfl⟩
  have b0 : Blk W w.heap.size 29 #[.int .i64 d, .slice A n c, .slice B m k] := by rw [hW]; exact Blk.new w _ _
  have hbW : Below w.heap.size w W := by rw [hW]; exact (Below.refl _ _).alloc (Nat.le_refl _) _
  have HW := Lib.hid hW
  have HT := Lib.hid hT
  have HT2 := Lib.hid hT2
  have HT3 := Lib.hid hT3
  clear hW hT hT2 hT3
  go_enter Try.func11, Try.ntmps11
  go_wp2_with fail
  rw [← HW.out]
  refine (markII_m T _ _ _ ts _ _ lo hi (hx.below hbW) HT.out HT2.out (by omega) h0 (by omega)).mono ?_
  rintro e w1 ⟨rfl, ht1⟩
  have b1 := b0.mkf ht1 HT3.out
  have q2 : w1.cell? ⟨w.heap.size, 2, none⟩ = some (.slice B m k) := b1.cell 2
  go_wp2_with fail
  refine (markI_m T _ _ _ _ _ lo hi ((hy.below hbW).mkf ht1) HT.out (by omega) (by omega)).mono ?_
  rintro e w2 ⟨rfl, ht2⟩
  go_wp2_with fail
  go_ret
  exact ⟨ret_int (by omega), (MkF.of_below hbW).trans (ht1.trans ht2)⟩
theorem sameTagB_self (d : Int) (ws : List (List Int)) (hs : List Int) : sameTagB d d ws ws hs hs = true := by simp [sameTagB, sameII, sameI]
end Go.Proofs.Ytgkdfjbffnlnpaa
