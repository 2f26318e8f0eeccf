/-
  A builder of strings in a block of its own: copyCheck, WriteRune of an ASCII rune, String.
-/
import Derived.Test.YtokglpdlhacnaaaDoorPbBackAll4
import Derived.Test.YtokglpdlhacnaaaDoorPbBackAll5
import Derived.Lib.Builder
import Derived.Laws.Externs
import Derived.Deep.RegionHeld3
import Derived.Maps.Own
import Derived.Maps.Views
namespace Go.Proofs.YtokglpdlhacnaaaDoor
open Go.RowKit

theorem sizeBld : (Tryd.prog.info? 180).map (·.size) = some 2 := by kernel_rfl
theorem liesBld : liesAt Tryd.prog Tryd.prog.depth 180 (2 / Tryd.prog.cellsOf 180) 0 180 1 = true := by kernel_rfl
theorem Blk.shape {w : World} {g : Nat} {t : TypeId} {cs : Array Value} (h : Blk w g t cs) : w.shape? g = some (t, cs.size) := by
  unfold Blk at h
  simp [World.shape?, h]
set_option maxHeartbeats 1000000 in
set_option maxRecDepth 100000 in
theorem copyCheck_used (b : Nat) (w : World) (h0 : w.cell? ⟨b, 0, none⟩ = some (.pointer (some ⟨b, 0, none⟩))) :
    Calls Tryd.prog 140 #[.pointer (some ⟨b, 0, none⟩)] w fun e w' => e = .returned (.tuple #[]) ∧ w' = w := by
  obtain ⟨j, hj, _⟩ := Option.map_eq_some_iff.1 sizeBld
  go_enter Tryd.func140, Tryd.ntmps140
  go_wp2
  rw [Lib.run_neq_ptr_same w _ Tryd.underlying178 hj]
  go_wp2
  go_end0
  exact ⟨rfl, rfl⟩
set_option maxHeartbeats 1000000 in
set_option maxRecDepth 100000 in
theorem copyCheck_fresh (b : Nat) (w : World) (h0 : w.cell? ⟨b, 0, none⟩ = some (.pointer none)) (hsh : w.shape? b = some (180, 2)) (hfz : w.frozen? ⟨b, 0, none⟩ = false) :
    Calls Tryd.prog 140 #[.pointer (some ⟨b, 0, none⟩)] w fun e w' => e = .returned (.tuple #[]) ∧ w' = w.setCell ⟨b, 0, none⟩ (.pointer (some ⟨b, 0, none⟩)) := by
  obtain ⟨j, hj, hjs⟩ := Option.map_eq_some_iff.1 sizeBld
  go_enter Tryd.func140, Tryd.ntmps140
  go_wp2
  rw [Lib.run_to_unsafe w ⟨b, 0, none⟩ Tryd.underlying178 Tryd.underlying190 hj (by rw [hjs]; decide) hsh (Nat.zero_lt_succ 1)]
  simp only [Result.andThen]
  rw [Oper.upon_value]
  go_wp2
  rw [run_callFunc_extern Tryd.func144 (by kernel_rfl) (by kernel_rfl) (by kernel_rfl) (e := Extern.AbiNoEscape.same) (by kernel_rfl)]
  rw [Lib.run_noEscape]
  simp only [Result.andThen]
  rw [Oper.upon_value]
  go_wp2
  rw [Lib.run_from_unsafe w ⟨b, 0, none⟩ Tryd.underlying190 Tryd.underlying178 hj hsh liesBld]
  simp only [Result.andThen]
  rw [Oper.upon_value]
  go_wp2
  go_end0
  exact ⟨rfl, rfl⟩
def byt (u : Nat) : UInt8 := UInt8.ofNat u
theorem byt_cells (u : Nat) (hu : u ≤ 127) : Lib.runeCells (u : Int) = bys [byt u] := by
  have : (byt u).toNat = u := by unfold byt; rw [UInt8.toNat_ofNat']; omega
  rw [Lib.runeCells, Lib.encodeRuneZ_one (by omega) (by omega)]
  simp [bys, this]
/-- A row of bytes of one's own, as the library's contracts say it. -/
def RowB (W : World) (B : Nat) (A : Option Addr) (n c : Nat) (l : List UInt8) : Prop := W.ownsRow B 5 1 (.slice A n c) n (bys l)
theorem RowB.kb {W W' : World} {B b n c : Nat} {A : Option Addr} {l : List UInt8} (h : RowB W B A n c l) (k : Kb b W W') (hA : blk A ≠ some b) : RowB W' B A n c l := by
  refine ⟨h.1, h.2.imp id ?_⟩
  rintro ⟨g, cap, cur, hv, h1, h2, h3⟩
  simp only [Value.slice.injEq] at hv
  obtain ⟨rfl, _, rfl⟩ := hv
  exact ⟨g, c, cur, rfl, h1, (k.block g (Array.getElem?_eq_some_iff.1 h2).1 (fun e => hA (by rw [e]; rfl))).trans h2, h3⟩
theorem RowB.ge {W : World} {B n c : Nat} {A : Option Addr} {l : List UInt8} (h : RowB W B A n c l) : ∀ g, blk A = some g → B ≤ g := by
  intro g hg
  rcases h.2 with ⟨hv, _⟩ | ⟨g', cap, cur, hv, h1, _⟩
  · simp only [Value.slice.injEq] at hv
    rw [hv.1] at hg; cases hg
  · simp only [Value.slice.injEq] at hv
    rw [hv.1] at hg
    cases hg; exact h1
theorem RowB.ne {W : World} {B b n c : Nat} {A : Option Addr} {l : List UInt8} {cs : Array Value} (h : RowB W B A n c l) (hb : Blk W b 180 cs) : blk A ≠ some b := by
  intro e
  rcases h.2 with ⟨hv, _⟩ | ⟨g', cap, cur, hv, h1, h2, _⟩
  · simp only [Value.slice.injEq] at hv
    rw [hv.1] at e; cases e
  · simp only [Value.slice.injEq] at hv
    rw [hv.1] at e
    cases e
    have := hb.symm.trans h2
    simp at this
/-- A builder at block b that holds the bytes l. -/
def Bld (b B : Nat) (l : List UInt8) (W : World) : Prop := B ≤ b ∧ ∃ p A c, (p = none ∨ p = some ⟨b, 0, none⟩) ∧ Blk W b 180 #[.pointer p, .slice A l.length c] ∧ RowB W B A l.length c l
set_option maxHeartbeats 1000000 in
theorem copyCheck_any (b : Nat) (p : Option Addr) (v : Value) (w : World) (hp : p = none ∨ p = some ⟨b, 0, none⟩) (hb : Blk w b 180 #[.pointer p, v]) :
    Calls Tryd.prog 140 #[.pointer (some ⟨b, 0, none⟩)] w fun e w' => e = .returned (.tuple #[]) ∧ Blk w' b 180 #[.pointer (some ⟨b, 0, none⟩), v] ∧ Kb b w w' := by
  rcases hp with rfl | rfl
  · refine (copyCheck_fresh b w (hb.cell 0) hb.shape (hb.frozen 0)).mono ?_
    rintro e w' ⟨rfl, rfl⟩
    exact ⟨rfl, hb.set_ 0 _, (Kb.refl b w).set_ 0 _⟩
  · refine (copyCheck_used b w (hb.cell 0)).mono ?_
    rintro e w' ⟨rfl, rfl⟩
    exact ⟨rfl, hb, Kb.refl b _⟩
set_option maxRecDepth 100000 in
set_option maxHeartbeats 4000000 in
theorem writeRune_any (b B : Nat) (l : List UInt8) (u : Nat) (w : World) (h : Bld b B l w) (hl : l.length ≤ 100000) (hu : u ≤ 127) :
    Calls Tryd.prog 135 #[.pointer (some ⟨b, 0, none⟩), .int .i32 (u : Int)] w fun e w' => (∃ v, e = .returned v) ∧ Bld b B (l ++ [byt u]) w' ∧ Below B w w' := by
  obtain ⟨hBb, p, A, c, hp, hB, hO⟩ := h
  obtain ⟨n, hn⟩ : ∃ n, n = l.length := ⟨_, rfl⟩
  rw [← hn] at hB hO hl
  have HN := Lib.hid hn
  have hAb := hO.ne hB
  have hlt := hB.lt
  clear hn
  have HC := Lib.hid (copyCheck_any b p _ w hp hB)
  clear hB hp
  go_enter Tryd.func135, Tryd.ntmps135
  go_upto_region 2 with (go_at_call 140; refine HC.out.mono ?_; rintro e w1 ⟨rfl, hB1, hk1⟩)
  have x1 := hB1.cell 1
  have hO1 := hO.kb hk1 hAb
  have HA := Lib.hid (Tryd.utf8_AppendRune_plain B (.slice A n c) n (bys l) (u : Int) (by omega) (by omega) w1 hO1 (by omega) (by have := hk1.size; omega))
  have HB1 := Lib.hid hB1
  have HK1 := Lib.hid hk1
  clear HC hO hB1 hk1
  go_wp2_with fail
  refine HA.out.mono ?_
  rintro e w2 ⟨v', rfl, o2, o, hg2⟩
  rw [byt_cells u hu, bys_append] at o2
  obtain ⟨g2, c2, rfl⟩ : ∃ g c', v' = .slice (some ⟨g, 0, none⟩) (n + 1) c' := by
    rcases o2.2 with ⟨_, h0⟩ | ⟨g, c', cur, hv, _⟩
    · rw [length_bys] at h0; simp at h0
    · exact ⟨g, c', hv⟩
  have o3 : RowB w2 B (some ⟨g2, 0, none⟩) (n + 1) c2 (l ++ [byt u]) := o2
  have hgA : blk A = (Value.slice A n c).ownBlock := by cases A <;> rfl
  rw [← hgA] at hg2
  have hB2 : Blk w2 b 180 #[.pointer (some ⟨b, 0, none⟩), .slice A n c] := (hg2.block b (by have := HB1.out.lt; simp; omega) (fun e => hAb e.symm)).trans (HB1.out.alloc _)
  have hz2 : Below B w w2 := by
    have h1 : Below B w w1 := ⟨HK1.out.os, HK1.out.tape, HK1.out.output, HK1.out.size, fun k hk => HK1.out.block k (by omega) (by omega)⟩
    exact (h1.alloc (by have := HK1.out.size; omega) _).grown hg2 (by have := HK1.out.size; simp; omega) (fun k hk => hO1.ge k hk)
  have f2 := hB2.frozen 1
  have y2 := hB2.cell 1
  have hne := o3.ne hB2
  have hB3 := Lib.hid (hB2.set_ 1 (.slice (some ⟨g2, 0, none⟩) (n + 1) c2))
  have hO3 := Lib.hid (o3.kb ((Kb.refl b w2).set_ 1 (.slice (some ⟨g2, 0, none⟩) (n + 1) c2)) hne)
  have hz3 := Lib.hid (hz2.setCell (p := ⟨b, 1, none⟩) hBb (.slice (some ⟨g2, 0, none⟩) (n + 1) c2))
  clear x1 hB2 hz2 o2 o3 hg2 HA HB1 HK1 hO1 hgA hne
  go_wp2_with fail
  refine bodyPost_ret (v := ?_) (by simp [results, Tryd.results135, go_sem]; rfl) rfl ⟨⟨_, rfl⟩, ⟨hBb, some ⟨b, 0, none⟩, some ⟨g2, 0, none⟩, c2, .inr rfl, ?_, ?_⟩, hz3.out⟩
  · have h : (l ++ [byt u]).length = n + 1 := by rw [List.length_append, ← HN.out]; rfl
    rw [h]; exact hB3.out
  · have h : (l ++ [byt u]).length = n + 1 := by rw [List.length_append, ← HN.out]; rfl
    rw [h]; exact hO3.out
theorem bldString_any (b B : Nat) (l : List UInt8) (w : World) (h : Bld b B l w) :
    Calls Tryd.prog 136 #[.pointer (some ⟨b, 0, none⟩)] w fun e w' => e = .returned (.string ⟨l.toArray⟩) ∧ Below B w w' := by
  obtain ⟨hBb, p, A, c, hp, hB, hO⟩ := h
  have hat : Lib.BuilderAt 180 5 B b (.pointer p) (Lib.byteCells l) w := by
    refine ⟨hBb, .slice A l.length c, hB, ?_, ?_⟩
    · rw [Lib.byteCells_length]; exact hO
    · have h1 := hO.ne hB
      cases A with
      | none => simp [Value.ownBlock]
      | some a => exact h1
  have hisb : Lib.IsBuilder 180 5 B b (Lib.byteCells l) w := by
    rcases hp with rfl | rfl
    · exact .inl hat
    · exact .inr hat
  exact (Tryd.Builder_String_any B b l w hisb (by have := hB.lt; omega)).mono fun e w' h => ⟨h.1, h.2⟩
end Go.Proofs.YtokglpdlhacnaaaDoor

/-
  The text of digits (digitsText).
-/
namespace Go.Proofs.YtokglpdlhacnaaaDoor
open Go.RowKit

/-- The digits of small numbers. -/
def digL (xs : List Int) : List UInt8 := xs.map fun x => byt (48 + x.toNat)
theorem digL_next {xs : List Int} {k : Nat} {x : Int} (h : xs[k]? = some x) : digL (xs.take (k + 1)) = digL (xs.take k) ++ [byt (48 + x.toNat)] := by
  unfold digL; rw [List.take_add_one, h]; simp
set_option maxRecDepth 100000 in
set_option maxHeartbeats 4000000 in
theorem digitsText_any (A : Option Addr) (n c : Nat) (xs : List Int) (w : World) (hx : SI w A n xs) (hn : n ≤ 100000) (hr : ∀ x ∈ xs, 0 ≤ x ∧ x ≤ 9) :
    Calls Tryd.prog 128 #[.slice A n c] w fun e w' => e = .returned (.string ⟨(digL xs).toArray⟩) ∧ Below w.heap.size w w' := by
  have HL := Lib.hid hx.len
  have HR := Lib.hid hr
  clear hr
  obtain ⟨W1, hW_⟩ : ∃ W_, W_ = w.alloc (.cells #[.pointer none, .slice none 0 0] 180) := ⟨_, rfl⟩
  have b1 : Blk W1 w.heap.size 180 #[.pointer none, .slice none 0 0] := by rw [hW_]; exact Blk.new w _ _
  have z1 : Below w.heap.size w W1 := by rw [hW_]; exact (Below.refl _ _).alloc (Nat.le_refl _) _
  have HW1 := Lib.hid hW_
  clear hW_
  have h1 : Hid (Bld w.heap.size w.heap.size (digL (xs.take 0)) W1) := Lib.hid ⟨Nat.le_refl _, none, none, 0, .inl rfl, b1, rfl, .inl ⟨rfl, rfl⟩⟩
  go_enter Tryd.func128, Tryd.ntmps128
  go_upto_region 2 with fail
  rw [← HW1.out]
  clear HW1 b1
  go_wp2_with fail
  go_loopw [8] (fun i wr => ∃ k : Nat, k ≤ n ∧ i = .int .i64 (k : Int) ∧ Hid (Bld w.heap.size w.heap.size (digL (xs.take k)) wr) ∧ Hid (Below w.heap.size w wr)) (fun i _ => n - (intOf i).toNat)
  case atStart => exact ⟨0, by omega, rfl, h1, Lib.hid z1⟩
  case round =>
    obtain ⟨k, hk, rfl, HB, HZ⟩ := hrel
    rename World => W0
    clear h1 z1
    by_cases hlt : k < n
    · have hw := hx.below HZ.out
      obtain ⟨b, off, rfl, _, hc⟩ := hw.at_ hlt
      obtain ⟨x, hx_⟩ : ∃ x, x = xs[k]'(by rw [HL.out]; exact hlt) := ⟨_, rfl⟩
      have hxr := HR.out x (by rw [hx_]; exact List.getElem_mem _)
      have HN := Lib.hid (digL_next (show xs[k]? = some x by rw [hx_]; exact List.getElem?_eq_getElem _))
      rw [← hx_] at hc
      obtain ⟨u, rfl⟩ : ∃ u : Nat, x = (u : Int) := ⟨x.toNat, by omega⟩
      rw [Int.toNat_natCast] at HN
      obtain ⟨v, hv⟩ : ∃ v, v = 48 + u := ⟨_, rfl⟩
      rw [← hv] at HN
      have p1 : IntKind.i32.wrap (u : Int) = (u : Int) := by rw [IntKind.wrap_i32]; omega
      have p2 : IntKind.i32.wrap (48 + (u : Int)) = (v : Int) := by rw [IntKind.wrap_i32]; omega
      have i1 : (k : Int) < (n : Int) := by omega
      have i0 : (0 : Int) ≤ (k : Int) := by omega
      have HW := Lib.hid (writeRune_any w.heap.size w.heap.size (digL (xs.take k)) v W0 HB.out (by simp [digL]; omega) (by omega))
      clear hx_ hw hxr hv
      go_wp2_with fail
      refine HW.out.mono ?_
      rintro e w2 ⟨⟨v2, rfl⟩, hB2, z2⟩
      rw [← HN.out] at hB2
      have HB2 := Lib.hid hB2
      have HZ2 := Lib.hid (HZ.out.trans z2)
      clear hB2 z2 HW p1 p2
      go_wp2_with fail
      exact ⟨⟨k + 1, by omega, by go_num, HB2, HZ2⟩, by simp [intOf]; omega⟩
    · have i2 : ¬ (k : Int) < (n : Int) := by omega
      have hke : xs.take k = xs := List.take_of_length_le (by have := HL.out; omega)
      rw [hke] at HB
      have HS := Lib.hid (bldString_any w.heap.size w.heap.size (digL xs) W0 HB.out)
      clear hke
      go_wp2_with fail
      refine HS.out.mono ?_
      rintro e w2 ⟨rfl, z2⟩
      have HZ2 := Lib.hid (HZ.out.trans z2)
      go_wp2_with fail
      go_ret
      exact ⟨rfl, HZ2.out⟩
end Go.Proofs.YtokglpdlhacnaaaDoor

/-
  The text of a partial configuration.
-/
namespace Go.Proofs.YtokglpdlhacnaaaDoor
open Go.RowKit

/-- The text: digits, the state in brackets, digits. -/
def partL (x : Pa) : List UInt8 := digL (x.cs.take x.at_.toNat) ++ [91] ++ Lib.decDigits x.q.toNat ++ [93] ++ digL (x.cs.drop x.at_.toNat)
set_option maxRecDepth 100000 in
set_option maxHeartbeats 4000000 in
theorem partialText_any (q : Nat) (a : Nat) (A : Option Addr) (n c : Nat) (xs : List Int) (w : World) (hx : SI w A n xs) (hn : n ≤ 1000) (hc : n ≤ c) (hcm : c ≤ maxLen) (ha : a < n) (hq : q ≤ 1000000) (hr : ∀ x ∈ xs, 0 ≤ x ∧ x ≤ 9) (ht : Tab w) :
    Calls Tryd.prog 103 #[.agg #[.int .i64 (q : Int), .int .i64 (a : Int), .slice A n c]] w fun e w' => e = .returned (.string ⟨(partL ⟨q, a, xs⟩).toArray⟩) ∧ Below w.heap.size w w' := by
  have hl := hx.len
  obtain ⟨b, off, rfl, hb⟩ : ∃ b off, A = some ⟨b, off, none⟩ ∧ b < w.heap.size := by
    obtain ⟨b, off, h1, h2, _⟩ := hx.at_ (k := 0) (by omega)
    exact ⟨b, off, h1, h2⟩
  obtain ⟨W, hW_⟩ : ∃ W, W = w.alloc (.cells #[.int .i64 (q : Int), .int .i64 (a : Int), .slice (some ⟨b, off, none⟩) n c] 58) := ⟨_, rfl⟩
  have b0 : Blk W w.heap.size 58 #[.int .i64 (q : Int), .int .i64 (a : Int), .slice (some ⟨b, off, none⟩) n c] := by rw [hW_]; exact Blk.new w _ _
  have y0 : Below w.heap.size w W := by rw [hW_]; exact (Below.refl _ _).alloc (Nat.le_refl _) _
  have HW := Lib.hid hW_
  clear hW_
  have q0 : W.cell? ⟨w.heap.size, 0, none⟩ = some (.int .i64 (q : Int)) := b0.cell 0
  have q1 : W.cell? ⟨w.heap.size, 1, none⟩ = some (.int .i64 (a : Int)) := b0.cell 1
  have q2 : W.cell? ⟨w.heap.size, 2, none⟩ = some (.slice (some ⟨b, off, none⟩) n c) := b0.cell 2
  have i0 : (0 : Int) ≤ (a : Int) := by omega
  have i1 : (a : Int) ≤ (n : Int) := by omega
  have i2 : (a : Int) ≤ (c : Int) := by omega
  have hg := b0.lt
  go_enter Tryd.func103, Tryd.ntmps103
  go_upto_region 1 with fail
  rw [← HW.out]
  have i3 : ¬ c = a := by omega
  have HX := Lib.hid (fun W' (h : Below w.heap.size w W') => hx.below h)
  have HT := Lib.hid (fun W' (h : Below w.heap.size w W') => ht.below h)
  have hr1 : ∀ x ∈ xs.take a, 0 ≤ x ∧ x ≤ 9 := fun x hm => hr x (List.mem_of_mem_take hm)
  have hr2 : ∀ x ∈ xs.drop a, 0 ≤ x ∧ x ≤ 9 := fun x hm => hr x (List.mem_of_mem_drop hm)
  have HD1 := Lib.hid (fun W' (h : Below w.heap.size w W') => digitsText_any (some ⟨b, off, none⟩) a c (xs.take a) W' (by have h2 := Rd.cut (i := 0) (j := a) (HX.out W' h) (by omega) (by omega) (A' := some ⟨b, off, none⟩) (fun _ b1 o1 e => by cases e; rfl); show Rd _ _ _ _ (ints (xs.take a)); simpa [ints, List.map_take] using h2) (by omega) hr1)
  have HD2 := Lib.hid (fun W' (h : Below w.heap.size w W') A' (hA : A' = some ⟨b, off + a, none⟩) => digitsText_any A' (n - a) (c - a) (xs.drop a) W' (by have h2 := Rd.cut (i := a) (j := n) (HX.out W' h) (by omega) (by omega) (A' := A') (fun _ b1 o1 e => by cases e; exact hA); rw [List.take_of_length_le (by simp [ints]; omega)] at h2; show Rd _ _ _ _ (ints (xs.drop a)); simpa [ints, List.map_drop] using h2) (by omega) hr2)
  obtain ⟨D1, hD1⟩ : ∃ D : ByteArray, D = ⟨(digL (xs.take a)).toArray⟩ := ⟨_, rfl⟩
  obtain ⟨D2, hD2⟩ : ∃ D : ByteArray, D = ⟨(digL (xs.drop a)).toArray⟩ := ⟨_, rfl⟩
  obtain ⟨D3, hD3⟩ : ∃ D : ByteArray, D = decS q := ⟨_, rfl⟩
  have d1 : D1.size ≤ 1000 := by rw [hD1]; simp [ByteArray.size, digL]; omega
  have d2 : D2.size ≤ 1000 := by rw [hD2]; simp [ByteArray.size, digL]; omega
  have d3 : D3.size ≤ 19 := by rw [hD3]; exact decS_len q (by omega)
  have HDE := Lib.hid (decimal_any q)
  rw [← hD1] at HD1
  rw [← hD2] at HD2
  rw [← hD3] at HDE
  have HE1 := Lib.hid hD1
  have HE2 := Lib.hid hD2
  have HE3 := Lib.hid hD3
  clear hD1 hD2 hD3
  have s1 : ¬ 9223372036854775807 < D1.size + 1 := by omega
  have s2 : ¬ 9223372036854775807 < D1.size + 1 + D3.size := by omega
  have s3 : ¬ 9223372036854775807 < D1.size + 1 + D3.size + 1 := by omega
  have s4 : ¬ 9223372036854775807 < D1.size + 1 + D3.size + 1 + D2.size := by omega
  have hp : Below w.heap.size w (W.drewN 1) := below_drewN y0 1
  have HS := Lib.hid (fun W' (z : Below W.heap.size W W') => (⟨(z.cell (p := ⟨w.heap.size, 0, none⟩) hg).trans q0, (z.cell (p := ⟨w.heap.size, 1, none⟩) hg).trans q1, (z.cell (p := ⟨w.heap.size, 2, none⟩) hg).trans q2⟩ : W'.cell? ⟨w.heap.size, 0, none⟩ = some (.int .i64 (q : Int)) ∧ W'.cell? ⟨w.heap.size, 1, none⟩ = some (.int .i64 (a : Int)) ∧ W'.cell? ⟨w.heap.size, 2, none⟩ = some (.slice (some ⟨b, off, none⟩) n c)))
  clear hr hr1 hr2 hx ht
  go_region_held3 (fun w' => w'.cell? ⟨w.heap.size, 0, none⟩ = some (.int .i64 (q : Int)) ∧ w'.cell? ⟨w.heap.size, 1, none⟩ = some (.int .i64 (a : Int)) ∧ w'.cell? ⟨w.heap.size, 2, none⟩ = some (.slice (some ⟨b, off, none⟩) n c))
    (first
      | (go_keep; done)
      | (exact HS.out _ zz4)
      | (exact HS.out _ zz3)
      | (exact HS.out _ zz2))
    (first
      | (go_at_call 129; refine (HDE.out _ (by omega) (HT.out _ hp2)).mono ?_; rintro e w3 ⟨rfl, z3⟩; have zz3 := zz2.trans (z3.mono zz2.size); have hp3 := hp2.trans (z3.mono hp2.size))
      | (go_at_call_of 128 (Value.slice (some ⟨b, off, none⟩) a c); refine (HD1.out _ hp).mono ?_; rintro e w2 ⟨rfl, z2⟩; have zz2 : Below W.heap.size W w2 := below_undrew (n := 1) z2; have hp2 := y0.trans (zz2.mono y0.size))
      | (go_at_call 128; refine (HD2.out _ hp3 _ (by simp [add_lit])).mono ?_; rintro e w4 ⟨rfl, z4⟩; have zz4 := zz3.trans (z4.mono zz3.size); have hp4 := hp3.trans (z4.mono hp3.size)))
  have hfin : D1 ++ ⟨#[91]⟩ ++ D3 ++ ⟨#[93]⟩ ++ D2 = ⟨(partL ⟨(q : Int), (a : Int), xs⟩).toArray⟩ := by
    rw [HE1.out, HE2.out, HE3.out]
    apply ByteArray.ext
    apply Array.toList_inj.1
    simp [partL, decS, ByteArray.data_append]
  have HF := Lib.hid hfin
  clear hfin s1 s2 s3 s4
  go_wp2_with fail
  go_ret
  exact ⟨by rw [← HF.out]; rfl, hp4⟩
end Go.Proofs.YtokglpdlhacnaaaDoor

/-
  Texts of partial configurations are equal only where the configurations are.
-/
namespace Go.Proofs.YtokglpdlhacnaaaDoor
open Go.RowKit

theorem split_at {c : UInt8} : ∀ {l1 l2 r1 r2 : List UInt8}, c ∉ l1 → c ∉ l2 → l1 ++ c :: r1 = l2 ++ c :: r2 → l1 = l2 ∧ r1 = r2 := by
  intro l1
  induction l1 with
  | nil =>
    intro l2 r1 r2 _ h2 h
    cases l2 with
    | nil => exact ⟨rfl, by simpa using h⟩
    | cons y l2 =>
      simp only [List.nil_append, List.cons_append, List.cons.injEq] at h
      exact absurd (by rw [h.1]; simp) h2
  | cons x l1 ih =>
    intro l2 r1 r2 h1 h2 h
    cases l2 with
    | nil =>
      simp only [List.nil_append, List.cons_append, List.cons.injEq] at h
      exact absurd (by rw [← h.1]; simp) h1
    | cons y l2 =>
      simp only [List.cons_append, List.cons.injEq] at h
      obtain ⟨e1, e2⟩ := ih (fun hm => h1 (by simp [hm])) (fun hm => h2 (by simp [hm])) h.2
      exact ⟨by rw [h.1, e1], e2⟩
theorem byt_toNat {u : Nat} (hu : u ≤ 127) : (byt u).toNat = u := by unfold byt; rw [UInt8.toNat_ofNat']; omega
theorem digL_range {xs : List Int} (h : ∀ x ∈ xs, 0 ≤ x ∧ x ≤ 9) : ∀ b ∈ digL xs, 48 ≤ b.toNat ∧ b.toNat ≤ 57 := by
  intro b hb
  obtain ⟨x, hx, rfl⟩ := List.mem_map.1 hb
  have := h x hx
  rw [byt_toNat (by omega)]; omega
theorem decDigits_range : ∀ u : Nat, ∀ b ∈ Lib.decDigits u, 48 ≤ b.toNat ∧ b.toNat ≤ 57 := by
  intro u
  induction u using Nat.strongRecOn with
  | _ u ih =>
    intro b hb
    rw [Lib.decDigits] at hb
    split at hb
    · rename_i h
      rw [List.mem_singleton.1 hb, UInt8.toNat_ofNat']; omega
    · rename_i h
      rcases List.mem_append.1 hb with hb | hb
      · exact ih (u / 10) (by omega) b hb
      · rw [List.mem_singleton.1 hb, UInt8.toNat_ofNat']; omega
def valD (l : List UInt8) : Nat := l.foldl (fun n b => 10 * n + (b.toNat - 48)) 0
theorem valD_dec : ∀ u : Nat, valD (Lib.decDigits u) = u := by
  intro u
  induction u using Nat.strongRecOn with
  | _ u ih =>
    rw [Lib.decDigits]
    split
    · rename_i h
      unfold valD
      simp only [List.foldl_cons, List.foldl_nil]
      rw [UInt8.toNat_ofNat']; omega
    · rename_i h
      have h1 := ih (u / 10) (by omega)
      unfold valD at h1 ⊢
      rw [List.foldl_append, h1]
      simp only [List.foldl_cons, List.foldl_nil]
      rw [UInt8.toNat_ofNat']; omega
theorem decDigits_inj {u v : Nat} (h : Lib.decDigits u = Lib.decDigits v) : u = v := by rw [← valD_dec u, ← valD_dec v, h]
theorem digL_inj : ∀ {xs ys : List Int}, (∀ x ∈ xs, 0 ≤ x ∧ x ≤ 9) → (∀ x ∈ ys, 0 ≤ x ∧ x ≤ 9) → digL xs = digL ys → xs = ys := by
  intro xs
  induction xs with
  | nil =>
    intro ys _ _ h
    cases ys with
    | nil => rfl
    | cons y ys => simp [digL] at h
  | cons x xs ih =>
    intro ys hx hy h
    cases ys with
    | nil => simp [digL] at h
    | cons y ys =>
      simp only [digL, List.map_cons, List.cons.injEq] at h
      have h1 := hx x (by simp)
      have h2 := hy y (by simp)
      have h3 := congrArg UInt8.toNat h.1
      rw [byt_toNat (by omega), byt_toNat (by omega)] at h3
      rw [show x = y by omega, ih (fun z hz => hx z (by simp [hz])) (fun z hz => hy z (by simp [hz])) h.2]
theorem PaOk.digs {sy st : Int} {x : Pa} (h : PaOk sy st x) (hs : sy ≤ 10) : ∀ y ∈ x.cs, 0 ≤ y ∧ y ≤ 9 := fun y hy => by have := h.cs y hy; omega
theorem partL_inj {sy st : Int} {x y : Pa} (hx : PaOk sy st x) (hy : PaOk sy st y) (hs : sy ≤ 10) (h : partL x = partL y) : x = y := by
  have dx := hx.digs hs
  have dy := hy.digs hs
  have tx : ∀ z ∈ x.cs.take x.at_.toNat, 0 ≤ z ∧ z ≤ 9 := fun z hz => dx z (List.mem_of_mem_take hz)
  have ty : ∀ z ∈ y.cs.take y.at_.toNat, 0 ≤ z ∧ z ≤ 9 := fun z hz => dy z (List.mem_of_mem_take hz)
  have sx : ∀ z ∈ x.cs.drop x.at_.toNat, 0 ≤ z ∧ z ≤ 9 := fun z hz => dx z (List.mem_of_mem_drop hz)
  have sy' : ∀ z ∈ y.cs.drop y.at_.toNat, 0 ≤ z ∧ z ≤ 9 := fun z hz => dy z (List.mem_of_mem_drop hz)
  unfold partL at h
  simp only [List.append_assoc, List.singleton_append, List.cons_append, List.nil_append] at h
  have n91 : ∀ l : List UInt8, (∀ b ∈ l, 48 ≤ b.toNat ∧ b.toNat ≤ 57) → (91 : UInt8) ∉ l := fun l hl hm => by have := hl _ hm; simp at this
  have n93 : ∀ l : List UInt8, (∀ b ∈ l, 48 ≤ b.toNat ∧ b.toNat ≤ 57) → (93 : UInt8) ∉ l := fun l hl hm => by have := hl _ hm; simp at this
  obtain ⟨e1, h⟩ := split_at (n91 _ (digL_range tx)) (n91 _ (digL_range ty)) h
  obtain ⟨e2, e3⟩ := split_at (n93 _ (decDigits_range _)) (n93 _ (decDigits_range _)) h
  have f1 := digL_inj tx ty e1
  have f3 := digL_inj sx sy' e3
  have f2 := decDigits_inj e2
  have hc : x.cs = y.cs := by rw [← List.take_append_drop x.at_.toNat x.cs, ← List.take_append_drop y.at_.toNat y.cs, f1, f3]
  have hl := congrArg List.length f1
  rw [List.length_take, List.length_take] at hl
  have a1 := hx.a0; have a2 := hx.a1; have a3 := hy.a0; have a4 := hy.a1; have a5 := hx.q0; have a6 := hy.q0
  obtain ⟨q, a, cs⟩ := x
  obtain ⟨q', a', cs'⟩ := y
  dsimp only at *
  subst hc
  rw [show q = q' by omega, show a = a' by omega]
end Go.Proofs.YtokglpdlhacnaaaDoor

/-
  A set of texts: a map from strings to bools that the call makes.
-/
namespace Go.Proofs.YtokglpdlhacnaaaDoor
open Go.RowKit Go.Maps

theorem strKeyed : Keyed Tryd.prog 9 := string_keyed Tryd.underlying9
/-- Block b is a map of at most n entries; it holds true just at the texts that mem says. -/
def StrSet (W : World) (b n : Nat) (mem : ByteArray → Bool) : Prop :=
  ∃ D : DataW Unit, W.ownsMap Tryd.prog 9 (plainElem Tryd.prog 4) b n D ∧ IsMap D ∧ ∀ s : ByteArray, s.size ≤ maxLen → D.atKey (.string s.data.toList) (.lit (.bool false)) = .lit (.bool (mem s))
theorem StrSet.new (w : World) : StrSet (w.alloc (.map #[] 0)) w.heap.size 0 (fun _ => false) :=
  ⟨.map [], World.ownsMap_made _ _ _ _, ⟨[], rfl⟩, fun _ _ => rfl⟩
theorem plain_bool_of {P : Program} {e : TypeId} (he : P.underlying e = some .bool) {v : Value} {x : Bool} {ps : List MemPlace} (h : plainElem (H := Unit) P e v = some (.lit (.bool x), ps)) : v = .bool x := by
  unfold plainElem at h
  rw [he] at h
  cases v <;> simp at h
  rw [h.1]
theorem plain_bool {v : Value} {x : Bool} {ps : List MemPlace} (h : plainElem (H := Unit) Tryd.prog 4 v = some (.lit (.bool x), ps)) : v = .bool x := plain_bool_of Tryd.underlying4 h
set_option maxRecDepth 100000 in
theorem StrSet.look {W : World} {b n : Nat} {mem : ByteArray → Bool} (h : StrSet W b n mem) (s : ByteArray) (hs : s.size ≤ maxLen) :
    (Instr.lookup 149 (.map (some b)) (.string s) false).run Tryd.prog W = .ok (.bool (mem s)) W := by
  obtain ⟨D, ho, _, hm⟩ := h
  have hz : (zeroValue 4).run Tryd.prog W = .ok (.bool false) W := by kernel_rfl
  obtain ⟨v, ps, hrun, hv⟩ := ho.lookup strKeyed Tryd.underlying149 hz (plainElem_bool Tryd.underlying4 false) (WideMaps.keyOf_string_mk Tryd.underlying9 hs)
  rw [hm s hs] at hv
  rw [plain_bool hv] at hrun
  exact hrun
theorem StrSet.put {W : World} {b n : Nat} {mem : ByteArray → Bool} (h : StrSet W b n mem) (hn : n < maxLen) (s : ByteArray) (hs : s.size ≤ maxLen) :
    ∃ w', (Instr.mapUpdate 149 (.map (some b)) (.string s) (.bool true)).run Tryd.prog W = .ok () w' ∧ StrSet w' b (n + 1) (fun t => decide (t = s) || mem t) ∧ W.grownBy w' (some b) := by
  obtain ⟨D, ho, hM, hm⟩ := h
  obtain ⟨w', hrun, ho', hg⟩ := ho.update strKeyed Tryd.underlying149 hn (WideMaps.keyOf_string_mk Tryd.underlying9 hs) (plainElem_bool Tryd.underlying4 true)
  refine ⟨w', hrun, ⟨_, ho', ?_, fun t ht => ?_⟩, hg⟩
  · obtain ⟨es, rfl⟩ := hM; exact ⟨_, rfl⟩
  · by_cases e : t = s
    · subst e
      rw [atKey_put_same (k := .string t.data.toList) hM (by trivial)]; simp
    · rw [atKey_put_other (fun h => e (by
        apply ByteArray.ext; apply Array.toList_inj.1
        simpa using h)), hm t ht]
      simp [e]
end Go.Proofs.YtokglpdlhacnaaaDoor

/-
  What is kept where one block alone turns, and rows that are added to a slice of partial configurations.
-/
namespace Go.Proofs.YtokglpdlhacnaaaDoor
open Go.RowKit

theorem Kb.grownRow {b row : Nat} {a W W' : World} (h : Kb b a W) (hg : W.grownBy W' (some row)) (hr : a.heap.size ≤ row) : Kb b a W' :=
  ⟨hg.os.trans h.os, hg.tape.trans h.tape, hg.output.trans h.output, Nat.le_trans h.size hg.size, fun k hk hy => (hg.block k (by have := h.size; omega) (fun e => by cases e; omega)).trans (h.block k hk hy)⟩
theorem Tab.kb {g : Nat} {W W' : World} {t : TypeId} {cur : Array Value} (h : Tab W) (k : Kb g W W') (hb : Blk W g t cur) (hne : cur.size ≠ 20) : Tab W' := by
  unfold Tab Lib.TabIs at h ⊢
  unfold World.var? at h ⊢
  cases hg : Tryd.prog.globalNamed "internal/strconv.uint64pow10" with
  | none => rw [hg] at h; cases h
  | some x =>
    rw [hg] at h
    simp only [Option.bind_some] at h ⊢
    have hlt : x < W.heap.size := by
      refine Nat.lt_of_not_le fun hle => ?_
      rw [Array.getElem?_eq_none hle] at h
      cases h
    have hxg : x ≠ g := by
      intro e
      subst e
      unfold Blk at hb
      rw [hb] at h
      simp only [Option.some.injEq] at h
      exact hne (by rw [h]; simp [Lib.pow10Tab])
    rw [k.block x hlt hxg]
    exact h
section
variable {w w' w2 : World} {lo n c : Nat} {A : Option Addr} {ts : List Pm}
theorem OPs.kept (h : OPs w lo A n c ts) (hk : ∀ b, lo ≤ b → b < w.heap.size → w'.heap[b]? = w.heap[b]?) : OPs w' lo A n c ts :=
  Recs.keptB h fun b hb => hk b (Recs.blk_ge h b hb).1 (Recs.blk_ge h b hb).2
theorem OPs.keep2 (h : OPs w lo A n c ts) {x : Nat} (hk : ∀ b, b < w.heap.size → b ≠ x → w'.heap[b]? = w.heap[b]?) (hx : x < lo) : OPs w' lo A n c ts :=
  h.kept fun b h1 h2 => hk b h2 (by omega)
/-- One configuration more, whose row is apart from the rows that are there. -/
theorem OPs.add {A2 : Option Addr} {c2 : Nat} {t : Pm} (hw : OPs w lo A n c ts) (hs : Own w2 lo 58 3 A2 (n + 1) c2 (ts.flatMap Pm.cells ++ t.cells)) (hg : w.grownBy w2 (blk A))
    (hL : Own w lo 2 1 t.L t.xs.length t.a (ints t.xs)) (hx : ∀ r ∈ ts.flatMap Pm.rows, ∀ m ∈ t.rows, AptR r m) : OPs w2 lo A2 (n + 1) c2 (ts ++ [t]) := by
  have e1 : (ts ++ [t]).flatMap Pm.cells = ts.flatMap Pm.cells ++ t.cells := by simp
  have e2 : (ts ++ [t]).flatMap Pm.rows = ts.flatMap Pm.rows ++ t.rows := by simp
  unfold OPs
  rw [e1, e2]
  refine Recs.append hw hs hg ?_ (List.pairwise_singleton _ _) ?_ hx
  · intro r hr
    simp only [Pm.rows, List.mem_cons, List.not_mem_nil, or_false] at hr
    subst hr
    exact hL
  · intro r hr
    simp only [Pm.rows, List.mem_cons, List.not_mem_nil, or_false] at hr
    subst hr
    show 2 ≠ 58; decide
end
/-- The rows that are there are apart from those of the configurations from the p-th on. -/
def AptFrom (us ts : List Pm) (p : Nat) : Prop := ∀ r ∈ us.flatMap Pm.rows, ∀ m ∈ (ts.drop p).flatMap Pm.rows, AptR r m
theorem AptFrom.start {w w' : World} {lo lo' n n' c c' : Nat} {A A' : Option Addr} {us ts : List Pm} (h : OPs w lo A n c us) (h' : OPs w' lo' A' n' c' ts) (hl : w.heap.size ≤ lo') : AptFrom us ts 0 := by
  intro r hr m hm b hb hb'
  have h1 := Own.blk_lt (Recs.each h r hr) b hb
  have h2 := Own.blk_ge (Recs.each h' m (by simpa using hm)) b hb'
  omega
theorem AptFrom.now {us ts : List Pm} {p : Nat} {t : Pm} (h : AptFrom us ts p) (ht : ts[p]? = some t) : ∀ r ∈ us.flatMap Pm.rows, ∀ m ∈ t.rows, AptR r m := by
  obtain ⟨hp, e⟩ := List.getElem?_eq_some_iff.1 ht
  intro r hr m hm
  refine h r hr m (List.mem_flatMap.2 ⟨t, ?_, hm⟩)
  rw [List.drop_eq_getElem_cons hp, e]; simp
theorem AptFrom.skip {us ts : List Pm} {p : Nat} (h : AptFrom us ts p) : AptFrom us ts (p + 1) := fun r hr m hm => h r hr m (by
  obtain ⟨t, ht, hm⟩ := List.mem_flatMap.1 hm
  refine List.mem_flatMap.2 ⟨t, ?_, hm⟩
  rw [← List.drop_drop] at ht
  exact List.mem_of_mem_drop ht)
theorem AptFrom.next {us ts : List Pm} {p : Nat} {t : Pm} (h : AptFrom us ts p) (ht : ts[p]? = some t) (ha : (ts.flatMap Pm.rows).Pairwise AptR) : AptFrom (us ++ [t]) ts (p + 1) := by
  obtain ⟨hp, e⟩ := List.getElem?_eq_some_iff.1 ht
  intro r hr m hm
  rw [List.flatMap_append] at hr
  rcases List.mem_append.1 hr with hr | hr
  · exact h.skip r hr m hm
  · have e2 : ts.flatMap Pm.rows = (ts.take p).flatMap Pm.rows ++ (t.rows ++ (ts.drop (p + 1)).flatMap Pm.rows) := by
      rw [← e, ← List.flatMap_cons, ← List.drop_eq_getElem_cons hp, ← List.flatMap_append, List.take_append_drop]
    rw [e2, List.pairwise_append, List.pairwise_append] at ha
    exact ha.2.1.2.2 r (by simpa using hr) m hm
def partS (x : Pa) : ByteArray := ⟨(partL x).toArray⟩
theorem partS_inj {sy st : Int} {x y : Pa} (hx : PaOk sy st x) (hy : PaOk sy st y) (hs : sy ≤ 10) (h : partS x = partS y) : x = y := by
  refine partL_inj hx hy hs ?_
  have h1 := congrArg (fun b : ByteArray => b.data.toList) h
  simpa [partS] using h1
theorem partS_len {sy st : Int} {x : Pa} (hx : PaOk sy st x) (hst : st ≤ 1000) (hl : x.cs.length ≤ 60) : (partS x).size ≤ 1000 := by
  have h1 := decS_len x.q.toNat (by have := hx.q1; omega)
  have h2 : (partS x).size = (partL x).length := by simp [partS, ByteArray.size]
  have h3 : (Lib.decDigits x.q.toNat).length ≤ 19 := by simpa [decS, ByteArray.size] using h1
  rw [h2]
  unfold partL digL
  simp only [List.length_append, List.length_map, List.length_take, List.length_drop, List.length_cons, List.length_nil]
  omega
theorem Own.cap {w : World} {lo s n c : Nat} {e : TypeId} {A : Option Addr} {cs : List Value} (h : Own w lo e s A n c cs) : c ≤ maxLen := by
  rcases h.2 with ⟨_, _, rfl⟩ | ⟨_, _, _, _, _, _, _, h1, _⟩
  · exact Nat.zero_le _
  · exact h1
/-- The set holds just the texts of the list, as far as valid configurations go. -/
def Knows (sy st : Int) (W : World) (b : Nat) (l : List Pa) : Prop := ∃ mem, StrSet W b l.length mem ∧ ∀ x, PaOk sy st x → (mem (partS x) = true ↔ x ∈ l)
theorem Kb.grownBy {g : Nat} {W W' : World} (k : Kb g W W') : W.grownBy W' (some g) := ⟨k.os, k.tape, k.output, k.size, fun i hi hn => k.block i hi (fun e => hn (by rw [e]))⟩
theorem StrSet.kb {g b n : Nat} {mem : ByteArray → Bool} {W W' : World} (h : StrSet W b n mem) (k : Kb g W W') (hb : b ≠ g) : StrSet W' b n mem := by
  obtain ⟨D, h1, h2⟩ := h
  exact ⟨D, h1.kept k.grownBy (fun e => hb (by simpa using e)), h2⟩
theorem StrSet.grown {b n : Nat} {row : Option Nat} {mem : ByteArray → Bool} {W W' : World} (h : StrSet W b n mem) (k : W.grownBy W' row) (hb : row ≠ some b) : StrSet W' b n mem := by
  obtain ⟨D, h1, h2⟩ := h
  exact ⟨D, h1.kept k (fun e => hb (by first | exact e | exact e.symm | simpa using e)), h2⟩
theorem Knows.kb {sy st : Int} {g b : Nat} {l : List Pa} {W W' : World} (h : Knows sy st W b l) (k : Kb g W W') (hb : b ≠ g) : Knows sy st W' b l := by
  obtain ⟨mem, h1, h2⟩ := h
  exact ⟨mem, h1.kb k hb, h2⟩
theorem Knows.below {sy st : Int} {b : Nat} {l : List Pa} {W W' : World} (h : Knows sy st W b l) (z : Below W.heap.size W W') : Knows sy st W' b l :=
  h.kb (Kb.of_below (b := b + 1) z) (by omega)
theorem Knows.grown {sy st : Int} {b : Nat} {row : Option Nat} {l : List Pa} {W W' : World} (h : Knows sy st W b l) (k : W.grownBy W' row) (hb : row ≠ some b) : Knows sy st W' b l := by
  obtain ⟨mem, h1, h2⟩ := h
  exact ⟨mem, h1.grown k hb, h2⟩
/-- Looking a text up. -/
theorem Knows.look {sy st : Int} {b : Nat} {l : List Pa} {W : World} (h : Knows sy st W b l) {x : Pa} (hx : PaOk sy st x) (hs : (partS x).size ≤ maxLen) :
    (Instr.lookup 149 (.map (some b)) (.string (partS x)) false).run Tryd.prog W = .ok (.bool (decide (x ∈ l))) W := by
  obtain ⟨mem, h1, h2⟩ := h
  rw [h1.look _ hs]
  have e : mem (partS x) = decide (x ∈ l) := by
    rw [Bool.eq_iff_iff, h2 x hx]; simp
  rw [e]
theorem Knows.put {sy st : Int} {b : Nat} {l : List Pa} {W : World} (h : Knows sy st W b l) {x : Pa} (hx : PaOk sy st x) (hs : (partS x).size ≤ maxLen) (hy : sy ≤ 10) (hn : l.length < maxLen) :
    ∃ w', (Instr.mapUpdate 149 (.map (some b)) (.string (partS x)) (.bool true)).run Tryd.prog W = .ok () w' ∧ Knows sy st w' b (l ++ [x]) ∧ W.grownBy w' (some b) := by
  obtain ⟨mem, h1, h2⟩ := h
  obtain ⟨w', h3, h4, h5⟩ := h1.put hn _ hs
  refine ⟨w', h3, ⟨_, by simpa using h4, fun y hY => ?_⟩, h5⟩
  simp only [Bool.or_eq_true, decide_eq_true_eq, h2 y hY, List.mem_append, List.mem_singleton]
  constructor
  · rintro (h | h)
    · exact .inr (partS_inj hY hx hy h)
    · exact .inl h
  · rintro (h | h)
    · exact .inr h
    · exact .inl (by rw [h])
end Go.Proofs.YtokglpdlhacnaaaDoor
