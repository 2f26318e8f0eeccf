/-
  A builder of strings in a block of its own: copyCheck, WriteRune of an ASCII rune, String.
-/
import Derived.Test.YtdlojbabnelbdaaGreatDoorPkdFindCycle4
import Derived.Lib.Builder
import Derived.Laws.Externs
import Derived.RangeFuncNested
import Derived.RangeFuncBound
import Derived.RangeFuncCalls
import Derived.RangeFuncLeaves
import Derived.Shelf.Abstract
import Derived.Shelf.RegionOpen
import Derived.OwnWalkIn
import Derived.TacticsInMore
import Derived.LoopNIn
import Derived.LoopIn
namespace Go.Proofs.YtdlojbabnelbdaaGreatDoor
open Go.RowKit

theorem sizeBld : (Tryz.prog.info? 105).map (·.size) = some 2 := by kernel_rfl
theorem liesBld : liesAt Tryz.prog Tryz.prog.depth 105 (2 / Tryz.prog.cellsOf 105) 0 105 1 = true := by kernel_rfl
theorem Blk.shape {w : World} {g : Nat} {t : TypeId} {cs : Array Value} (h : Blk w g t cs) : w.shape? g = some (t, cs.size) := by
  unfold Blk at h
  simp [World.shape?, h]
set_option maxHeartbeats 1000000 in
set_option maxRecDepth 100000 in
theorem copyCheck_used (b : Nat) (w : World) (h0 : w.cell? ⟨b, 0, none⟩ = some (.pointer (some ⟨b, 0, none⟩))) :
    Calls Tryz.prog 80 #[.pointer (some ⟨b, 0, none⟩)] w fun e w' => e = .returned (.tuple #[]) ∧ w' = w := by
  obtain ⟨j, hj, _⟩ := Option.map_eq_some_iff.1 sizeBld
  go_enter Tryz.func80, Tryz.ntmps80
  go_wp2
  rw [Lib.run_neq_ptr_same w _ Tryz.underlying102 hj]
  go_wp2
  go_end0
  exact ⟨rfl, rfl⟩
set_option maxHeartbeats 1000000 in
set_option maxRecDepth 100000 in
theorem copyCheck_fresh (b : Nat) (w : World) (h0 : w.cell? ⟨b, 0, none⟩ = some (.pointer none)) (hsh : w.shape? b = some (105, 2)) (hfz : w.frozen? ⟨b, 0, none⟩ = false) :
    Calls Tryz.prog 80 #[.pointer (some ⟨b, 0, none⟩)] w fun e w' => e = .returned (.tuple #[]) ∧ w' = w.setCell ⟨b, 0, none⟩ (.pointer (some ⟨b, 0, none⟩)) := by
  obtain ⟨j, hj, hjs⟩ := Option.map_eq_some_iff.1 sizeBld
  go_enter Tryz.func80, Tryz.ntmps80
  go_wp2
  rw [Lib.run_to_unsafe w ⟨b, 0, none⟩ Tryz.underlying102 Tryz.underlying122 hj (by rw [hjs]; decide) hsh (Nat.zero_lt_succ 1)]
  simp only [Result.andThen]
  rw [Oper.upon_value]
  go_wp2
  rw [run_callFunc_extern Tryz.func89 (by kernel_rfl) (by kernel_rfl) (by kernel_rfl) (e := Extern.AbiNoEscape.same) (by kernel_rfl)]
  rw [Lib.run_noEscape]
  simp only [Result.andThen]
  rw [Oper.upon_value]
  go_wp2
  rw [Lib.run_from_unsafe w ⟨b, 0, none⟩ Tryz.underlying122 Tryz.underlying102 hj hsh liesBld]
  simp only [Result.andThen]
  rw [Oper.upon_value]
  go_wp2
  go_end0
  exact ⟨rfl, rfl⟩
def byt (u : Nat) : UInt8 := UInt8.ofNat u
theorem byt_cells (u : Nat) (hu : u ≤ 127) : Lib.runeCells (u : Int) = bys [byt u] := by
  have : (byt u).toNat = u := by unfold byt; rw [UInt8.toNat_ofNat']; omega
  rw [Lib.runeCells, Lib.encodeRuneZ_one (by omega) (by omega)]
  simp [bys, this]
/-- A row of bytes of one's own, as the library's contracts say it. -/
def RowB (W : World) (B : Nat) (A : Option Addr) (n c : Nat) (l : List UInt8) : Prop := W.ownsRow B 5 1 (.slice A n c) n (bys l)
theorem RowB.kb {W W' : World} {B b n c : Nat} {A : Option Addr} {l : List UInt8} (h : RowB W B A n c l) (k : Kb b W W') (hA : blk A ≠ some b) : RowB W' B A n c l := by
  refine ⟨h.1, h.2.imp id ?_⟩
  rintro ⟨g, cap, cur, hv, h1, h2, h3⟩
  simp only [Value.slice.injEq] at hv
  obtain ⟨rfl, _, rfl⟩ := hv
  exact ⟨g, c, cur, rfl, h1, (k.block g (Array.getElem?_eq_some_iff.1 h2).1 (fun e => hA (by rw [e]; rfl))).trans h2, h3⟩
theorem RowB.ge {W : World} {B n c : Nat} {A : Option Addr} {l : List UInt8} (h : RowB W B A n c l) : ∀ g, blk A = some g → B ≤ g := by
  intro g hg
  rcases h.2 with ⟨hv, _⟩ | ⟨g', cap, cur, hv, h1, _⟩
  · simp only [Value.slice.injEq] at hv
    rw [hv.1] at hg; cases hg
  · simp only [Value.slice.injEq] at hv
    rw [hv.1] at hg
    cases hg; exact h1
theorem RowB.ne {W : World} {B b n c : Nat} {A : Option Addr} {l : List UInt8} {cs : Array Value} (h : RowB W B A n c l) (hb : Blk W b 105 cs) : blk A ≠ some b := by
  intro e
  rcases h.2 with ⟨hv, _⟩ | ⟨g', cap, cur, hv, h1, h2, _⟩
  · simp only [Value.slice.injEq] at hv
    rw [hv.1] at e; cases e
  · simp only [Value.slice.injEq] at hv
    rw [hv.1] at e
    cases e
    have := hb.symm.trans h2
    simp at this
/-- A builder at block b that holds the bytes l. -/
def Bld (b B : Nat) (l : List UInt8) (W : World) : Prop := B ≤ b ∧ ∃ p A c, (p = none ∨ p = some ⟨b, 0, none⟩) ∧ Blk W b 105 #[.pointer p, .slice A l.length c] ∧ RowB W B A l.length c l
set_option maxHeartbeats 1000000 in
theorem copyCheck_any (b : Nat) (p : Option Addr) (v : Value) (w : World) (hp : p = none ∨ p = some ⟨b, 0, none⟩) (hb : Blk w b 105 #[.pointer p, v]) :
    Calls Tryz.prog 80 #[.pointer (some ⟨b, 0, none⟩)] w fun e w' => e = .returned (.tuple #[]) ∧ Blk w' b 105 #[.pointer (some ⟨b, 0, none⟩), v] ∧ Kb b w w' := by
  rcases hp with rfl | rfl
  · refine (copyCheck_fresh b w (hb.cell 0) hb.shape (hb.frozen 0)).mono ?_
    rintro e w' ⟨rfl, rfl⟩
    exact ⟨rfl, hb.set_ 0 _, (Kb.refl b w).set_ 0 _⟩
  · refine (copyCheck_used b w (hb.cell 0)).mono ?_
    rintro e w' ⟨rfl, rfl⟩
    exact ⟨rfl, hb, Kb.refl b _⟩
set_option maxRecDepth 100000 in
set_option maxHeartbeats 4000000 in
theorem writeRune_any (b B : Nat) (l : List UInt8) (u : Nat) (w : World) (h : Bld b B l w) (hl : l.length ≤ 100000) (hu : u ≤ 127) :
    Calls Tryz.prog 66 #[.pointer (some ⟨b, 0, none⟩), .int .i32 (u : Int)] w fun e w' => (∃ v, e = .returned v) ∧ Bld b B (l ++ [byt u]) w' ∧ Below B w w' := by
  obtain ⟨hBb, p, A, c, hp, hB, hO⟩ := h
  obtain ⟨n, hn⟩ : ∃ n, n = l.length := ⟨_, rfl⟩
  rw [← hn] at hB hO hl
  have HN := Lib.hid hn
  have hAb := hO.ne hB
  have hlt := hB.lt
  clear hn
  have HC := Lib.hid (copyCheck_any b p _ w hp hB)
  clear hB hp
  go_enter Tryz.func66, Tryz.ntmps66
  go_upto_region 2 with (go_at_call 80; refine HC.out.mono ?_; rintro e w1 ⟨rfl, hB1, hk1⟩)
  have x1 := hB1.cell 1
  have hO1 := hO.kb hk1 hAb
  have HA := Lib.hid (Tryz.utf8_AppendRune_plain B (.slice A n c) n (bys l) (u : Int) (by omega) (by omega) w1 hO1 (by omega) (by have := hk1.size; omega))
  have HB1 := Lib.hid hB1
  have HK1 := Lib.hid hk1
  clear HC hO hB1 hk1
  go_wp2_with fail
  refine HA.out.mono ?_
  rintro e w2 ⟨v', rfl, o2, o, hg2⟩
  rw [byt_cells u hu, bys_append] at o2
  obtain ⟨g2, c2, rfl⟩ : ∃ g c', v' = .slice (some ⟨g, 0, none⟩) (n + 1) c' := by
    rcases o2.2 with ⟨_, h0⟩ | ⟨g, c', cur, hv, _⟩
    · rw [length_bys] at h0; simp at h0
    · exact ⟨g, c', hv⟩
  have o3 : RowB w2 B (some ⟨g2, 0, none⟩) (n + 1) c2 (l ++ [byt u]) := o2
  have hgA : blk A = (Value.slice A n c).ownBlock := by cases A <;> rfl
  rw [← hgA] at hg2
  have hB2 : Blk w2 b 105 #[.pointer (some ⟨b, 0, none⟩), .slice A n c] := (hg2.block b (by have := HB1.out.lt; simp; omega) (fun e => hAb e.symm)).trans (HB1.out.alloc _)
  have hz2 : Below B w w2 := by
    have h1 : Below B w w1 := ⟨HK1.out.os, HK1.out.tape, HK1.out.output, HK1.out.size, fun k hk => HK1.out.block k (by omega) (by omega)⟩
    exact (h1.alloc (by have := HK1.out.size; omega) _).grown hg2 (by have := HK1.out.size; simp; omega) (fun k hk => hO1.ge k hk)
  have f2 := hB2.frozen 1
  have y2 := hB2.cell 1
  have hne := o3.ne hB2
  have hB3 := Lib.hid (hB2.set_ 1 (.slice (some ⟨g2, 0, none⟩) (n + 1) c2))
  have hO3 := Lib.hid (o3.kb ((Kb.refl b w2).set_ 1 (.slice (some ⟨g2, 0, none⟩) (n + 1) c2)) hne)
  have hz3 := Lib.hid (hz2.setCell (p := ⟨b, 1, none⟩) hBb (.slice (some ⟨g2, 0, none⟩) (n + 1) c2))
  clear x1 hB2 hz2 o2 o3 hg2 HA HB1 HK1 hO1 hgA hne
  go_wp2_with fail
  refine bodyPost_ret (v := ?_) (by simp [results, Tryz.results66, go_sem]; rfl) rfl ⟨⟨_, rfl⟩, ⟨hBb, some ⟨b, 0, none⟩, some ⟨g2, 0, none⟩, c2, .inr rfl, ?_, ?_⟩, hz3.out⟩
  · have h : (l ++ [byt u]).length = n + 1 := by rw [List.length_append, ← HN.out]; rfl
    rw [h]; exact hB3.out
  · have h : (l ++ [byt u]).length = n + 1 := by rw [List.length_append, ← HN.out]; rfl
    rw [h]; exact hO3.out
theorem bldString_any (b B : Nat) (l : List UInt8) (w : World) (h : Bld b B l w) :
    Calls Tryz.prog 67 #[.pointer (some ⟨b, 0, none⟩)] w fun e w' => e = .returned (.string ⟨l.toArray⟩) ∧ Below B w w' := by
  obtain ⟨hBb, p, A, c, hp, hB, hO⟩ := h
  have hat : Lib.BuilderAt 105 5 B b (.pointer p) (Lib.byteCells l) w := by
    refine ⟨hBb, .slice A l.length c, hB, ?_, ?_⟩
    · rw [Lib.byteCells_length]; exact hO
    · have h1 := hO.ne hB
      cases A with
      | none => simp [Value.ownBlock]
      | some a => exact h1
  have hisb : Lib.IsBuilder 105 5 B b (Lib.byteCells l) w := by
    rcases hp with rfl | rfl
    · exact .inl hat
    · exact .inr hat
  exact (Tryz.Builder_String_any B b l w hisb (by have := hB.lt; omega)).mono fun e w' h => ⟨h.1, h.2⟩
end Go.Proofs.YtdlojbabnelbdaaGreatDoor

/-
  The text of digits (digitsText).
-/
namespace Go.Proofs.YtdlojbabnelbdaaGreatDoor
open Go.RowKit

/-- The digits of small numbers. -/
def digL (xs : List Int) : List UInt8 := xs.map fun x => byt (48 + x.toNat)
theorem digL_next {xs : List Int} {k : Nat} {x : Int} (h : xs[k]? = some x) : digL (xs.take (k + 1)) = digL (xs.take k) ++ [byt (48 + x.toNat)] := by
  unfold digL; rw [List.take_add_one, h]; simp
set_option maxRecDepth 100000 in
set_option maxHeartbeats 4000000 in
theorem digitsText_any (A : Option Addr) (n c : Nat) (xs : List Int) (w : World) (hx : SI w A n xs) (hn : n ≤ 100000) (hr : ∀ x ∈ xs, 0 ≤ x ∧ x ≤ 9) :
    Calls Tryz.prog 46 #[.slice A n c] w fun e w' => e = .returned (.string ⟨(digL xs).toArray⟩) ∧ Below w.heap.size w w' := by
  have HL := Lib.hid hx.len
  have HR := Lib.hid hr
  clear hr
  obtain ⟨W1, hW_⟩ : ∃ W_, W_ = w.alloc (.cells #[.pointer none, .slice none 0 0] 105) := ⟨_, rfl⟩
  have b1 : Blk W1 w.heap.size 105 #[.pointer none, .slice none 0 0] := by rw [hW_]; exact Blk.new w _ _
  have z1 : Below w.heap.size w W1 := by rw [hW_]; exact (Below.refl _ _).alloc (Nat.le_refl _) _
  have HW1 := Lib.hid hW_
  clear hW_
  have h1 : Hid (Bld w.heap.size w.heap.size (digL (xs.take 0)) W1) := Lib.hid ⟨Nat.le_refl _, none, none, 0, .inl rfl, b1, rfl, .inl ⟨rfl, rfl⟩⟩
  go_enter Tryz.func46, Tryz.ntmps46
  go_upto_region 2 with fail
  rw [← HW1.out]
  clear HW1 b1
  go_wp2_with fail
  go_loopw [8] (fun i wr => ∃ k : Nat, k ≤ n ∧ i = .int .i64 (k : Int) ∧ Hid (Bld w.heap.size w.heap.size (digL (xs.take k)) wr) ∧ Hid (Below w.heap.size w wr)) (fun i _ => n - (intOf i).toNat)
  case atStart => exact ⟨0, by omega, rfl, h1, Lib.hid z1⟩
  case round =>
    obtain ⟨k, hk, rfl, HB, HZ⟩ := hrel
    rename World => W0
    clear h1 z1
    by_cases hlt : k < n
    · have hw := hx.below HZ.out
      obtain ⟨b, off, rfl, _, hc⟩ := hw.at_ hlt
      obtain ⟨x, hx_⟩ : ∃ x, x = xs[k]'(by rw [HL.out]; exact hlt) := ⟨_, rfl⟩
      have hxr := HR.out x (by rw [hx_]; exact List.getElem_mem _)
      have HN := Lib.hid (digL_next (show xs[k]? = some x by rw [hx_]; exact List.getElem?_eq_getElem _))
      rw [← hx_] at hc
      obtain ⟨u, rfl⟩ : ∃ u : Nat, x = (u : Int) := ⟨x.toNat, by omega⟩
      rw [Int.toNat_natCast] at HN
      obtain ⟨v, hv⟩ : ∃ v, v = 48 + u := ⟨_, rfl⟩
      rw [← hv] at HN
      have p1 : IntKind.i32.wrap (u : Int) = (u : Int) := by rw [IntKind.wrap_i32]; omega
      have p2 : IntKind.i32.wrap (48 + (u : Int)) = (v : Int) := by rw [IntKind.wrap_i32]; omega
      have i1 : (k : Int) < (n : Int) := by omega
      have i0 : (0 : Int) ≤ (k : Int) := by omega
      have HW := Lib.hid (writeRune_any w.heap.size w.heap.size (digL (xs.take k)) v W0 HB.out (by simp [digL]; omega) (by omega))
      clear hx_ hw hxr hv
      go_wp2_with fail
      refine HW.out.mono ?_
      rintro e w2 ⟨⟨v2, rfl⟩, hB2, z2⟩
      rw [← HN.out] at hB2
      have HB2 := Lib.hid hB2
      have HZ2 := Lib.hid (HZ.out.trans z2)
      clear hB2 z2 HW p1 p2
      go_wp2_with fail
      exact ⟨⟨k + 1, by omega, by go_num, HB2, HZ2⟩, by simp [intOf]; omega⟩
    · have i2 : ¬ (k : Int) < (n : Int) := by omega
      have hke : xs.take k = xs := List.take_of_length_le (by have := HL.out; omega)
      rw [hke] at HB
      have HS := Lib.hid (bldString_any w.heap.size w.heap.size (digL xs) W0 HB.out)
      clear hke
      go_wp2_with fail
      refine HS.out.mono ?_
      rintro e w2 ⟨rfl, z2⟩
      have HZ2 := Lib.hid (HZ.out.trans z2)
      go_wp2_with fail
      go_ret
      exact ⟨rfl, HZ2.out⟩
end Go.Proofs.YtdlojbabnelbdaaGreatDoor

/-
  A range over a function whose iterator keeps state of its own in cells: the caller's law. No program is in sight.
-/
namespace Go.Proofs.YtdlojbabnelbdaaGreatDoor
open Go.RowKit

variable {F : Fence} {n : Nat} {P : Program}

/-- The loop's own records: the loop and the deferred calls. -/
def isBook : Obj → Bool
  | .loop .. => true
  | .deferred .. => true
  | _ => false
theorem book_cells {o : Obj} (h : isBook o = true) : o.isCells = false := by cases o <;> first | rfl | cases h
theorem cells_book {o : Obj} (h : o.isCells = true) : isBook o = false := by cases o <;> first | rfl | cases h
/-- The loop's records lie as they lay. -/
structure KeepsBook (W W' : World) : Prop where
  size : W.heap.size ≤ W'.heap.size
  same : ∀ (k : Nat) (o : Obj), W.heap[k]? = some o → isBook o = true → W'.heap[k]? = some o
theorem KeepsBook.of {W W' : World} (h : KeepsOthers W W') : KeepsBook W W' := ⟨h.size, fun k o hk ho => h.same k o hk (book_cells ho)⟩
theorem KeepsBook.refl (W : World) : KeepsBook W W := KeepsBook.of (KeepsOthers.refl W)
theorem KeepsBook.trans {A B C : World} (h : KeepsBook A B) (k : KeepsBook B C) : KeepsBook A C := ⟨Nat.le_trans h.size k.size, fun i o hi ho => k.same i o (h.same i o hi ho) ho⟩
theorem KeepsBook.alloc (W : World) (o : Obj) : KeepsBook W (W.alloc o) := KeepsBook.of (KeepsOthers.alloc W o)
theorem KeepsBook.setCell (W : World) (a : Addr) (v : Value) : KeepsBook W (W.setCell a v) := KeepsBook.of (KeepsOthers.setCell W a v)

/-- The contract of an iterator. J x: where yield is called with x. J' x: behind a round that goes on. Jx c x: behind a round that left by c. B, Bx: the loop's own book-keeping. -/
def SeqC {α : Type} (F : Fence) (n : Nat) (P : Program) (g : Nat) (lb : Array Value) (encs : α → Array Value) (J J' : α → World → Prop) (Jx : Code → α → World → Prop) (Start Fin : World → Prop) (FinX : Code → World → Prop) : Prop :=
  ∀ (l : Nat) (B : World → Prop) (Bx : Code → World → Prop), (∀ W W', B W → KeepsBook W W' → B W') → (∀ c W W', Bx c W → KeepsBook W W' → Bx c W') →
    (∀ x W, J x W → B W → YieldAt F (n - 1) P l (encs x) W fun e W' => (e = .returned (.bool true) ∧ J' x W' ∧ B W') ∨ (e = .returned (.bool false) ∧ ∃ c, Jx c x W' ∧ Bx c W')) →
    ∀ W, Start W → B W → CallsIn F n P g (#[.func (.yield l) #[] #[]] ++ lb) W fun e W' => (∃ v, e = .returned v) ∧ ((Fin W' ∧ B W') ∨ (∃ c, FinX c W' ∧ Bx c W'))

def stPost {α : Type} (J' : α → World → Prop) (Jx : Code → α → World → Prop) (x : α) (W : World) : Exit → Act → World → Prop
  | .normal, _, W' => KeepsBook W W' ∧ J' x W'
  | .ret, _, W' => KeepsBook W W' ∧ Jx .ret x W'
  | .exit id, _, W' => KeepsBook W W' ∧ Jx (.exit id) x W'
  | .goto t, _, W' => KeepsBook W W' ∧ Jx (.goto t) x W'
  | .panic _, _, _ => False
  | .outgrown, _, _ => False

/-- A word that abides a turn of a block that holds no cells. -/
def PutOk (b0 : Nat) (I : World → Prop) : Prop := ∀ (W : World) (l : Nat) (o o' : Obj), I W → b0 ≤ l → W.heap[l]? = some o → isBook o = true → I (W.putObj l o')

theorem keeps_loop {W W' : World} {l : Nat} {o : Obj} (h : KeepsBook W W') (hl : W.heap[l]? = some o) (ho : isBook o = true) : W'.heap[l]? = some o := h.same l o hl ho

theorem wpIn_rangeFunc_st {α : Type} {g : Operand} {ps : Array Tmp} {assign body : Code} {Q : Exit → Act → World → Prop} {a : Act} {w : World}
    (hro : F.round = none) (h1 : 1 ≤ n) {gf : Nat} {lb : Array Value} (hg : a.eval g = .func (.func gf) #[] lb) (hFg : F.fn gf) (eg : ∀ args w, (callFunc gf args).run P w = .ok (.enter gf args) w)
    {encs : α → Array Value} {J J' : α → World → Prop} {Jx : Code → α → World → Prop} {Start Fin : World → Prop} {FinX : Code → World → Prop} (hseq : SeqC F (n - 1) P gf lb encs J J' Jx Start Fin FinX)
    (hps : ∀ x, (encs x).size = ps.size) (hJ : ∀ x, PutOk w.heap.size (J x)) (hJ' : ∀ x, PutOk w.heap.size (J' x)) (hJx : ∀ c x, PutOk w.heap.size (Jx c x)) (hFin : PutOk w.heap.size Fin) (hFinX : ∀ c, PutOk w.heap.size (FinX c))
    (hstart : ∀ r, Start ((w.alloc (.deferred (some []))).alloc (.loop r))) (a₁ : α → Act)
    (hassign : ∀ (l : Nat) (x : α) (W : World) (K : Act → World → Prop), K (a₁ x) W →
      assign.wpIn (F.inRound l) (n - 1 - 1) P (Exit.then K (fun _ _ _ => False)) { tmps := (ps.zip (encs x)).foldl (fun t (p, v) => t.setIfInBounds p v) a.tmps, defers := [] } W)
    (hbody : ∀ (l : Nat) (x : α) (W : World), w.heap.size ≤ l → J x W → body.wpIn (F.inRound l) (n - 1 - 1) P (stPost J' Jx x W) (a₁ x) W)
    (hdone : ∀ (D : Nat) (W : World), w.heap.size ≤ D → Fin W → W.heap[D]? = some (.deferred (some [])) → Q .normal { a with defers := { target := .collected D, args := #[] } :: a.defers } W)
    (hstop : ∀ (D : Nat) (c : Code) (W : World), w.heap.size ≤ D → FinX c W → W.heap[D]? = some (.deferred (some [])) → c.wpIn F n P Q { a with defers := { target := .collected D, args := #[] } :: a.defers } W) :
    (Code.rangeFunc g ps assign body).wpIn F n P Q a w := by
  refine wpIn_rangeFunc ?_
  intro fn hfn
  rw [hro]
  obtain ⟨rec, hrec⟩ : ∃ rec : LoopState → Option Code → Loop, rec = fun st pe => { state := st, pending := pe, fn, tmps := a.tmps, params := ps, assign, body, defers := w.heap.size } := ⟨_, rfl⟩
  obtain ⟨W1, hW1⟩ : ∃ W1, (w.alloc (.deferred (some []))).alloc (.loop (rec .ready none)) = W1 := ⟨_, rfl⟩
  have hL1 : W1.heap[w.heap.size + 1]? = some (.loop (rec .ready none)) := by
    rw [← hW1]; have := World.alloc_heap_new (w.alloc (.deferred (some []))) (.loop (rec .ready none)); rwa [World.size_alloc] at this
  have hK1 : W1.heap[w.heap.size]? = some (.deferred (some [])) := by
    rw [← hW1]; exact (Below.heap_alloc _ _ _ (by simp)).trans (World.alloc_heap_new w _)
  have hS1 : Start W1 := by rw [← hW1]; exact hstart _
  refine ⟨w.heap.size + 1, [{ target := .collected w.heap.size, args := #[] }], W1, { target := .fn (.func gf) lb, args := #[.func (.yield (w.heap.size + 1)) #[] #[]] }, W1, gf,
    #[.func (.yield (w.heap.size + 1)) #[] #[]] ++ lb, W1, ?_, ?_, ?_, ?_, fun _ => h1, ?_⟩
  · rw [← hW1, hrec]; exact run_enterLoop_outer _ _ _ _ _
  · simp only [resolve, hg]
    simp [go_sem]
  · intro f' hf'; simp [Target.leads] at hf'; subst hf'; exact hFg
  · simp [invoke, go_sem, eg]
  · refine (hseq (w.heap.size + 1)
      (fun W => W.heap[w.heap.size + 1]? = some (.loop (rec .ready none)) ∧ W.heap[w.heap.size]? = some (.deferred (some [])))
      (fun c W => W.heap[w.heap.size + 1]? = some (.loop (rec .done (some c))) ∧ W.heap[w.heap.size]? = some (.deferred (some [])))
      (fun W W' h k => ⟨keeps_loop k h.1 rfl, keeps_loop k h.2 rfl⟩) (fun c W W' h k => ⟨keeps_loop k h.1 rfl, keeps_loop k h.2 rfl⟩) ?_ W1 hS1 ⟨hL1, hK1⟩).mono ?_
    · rintro x W hi ⟨hl, hk⟩
      have hlt : w.heap.size + 1 < W.heap.size := (Array.getElem?_eq_some_iff.1 hl).1
      have hy := run_yield (P := P) (args := encs x) hl (by rw [hrec]; exact hps x)
      rw [hrec] at hy
      refine ⟨fn, _, assign, body, hy, roundIn_of_wpIn hfn (hassign _ x W _ ⟨_, run_beginRound hl (by rw [hrec]), ?_⟩)⟩
      have hl2 : (W.putObj (w.heap.size + 1) (.loop { rec .ready none with state := .busy })).heap[w.heap.size + 1]? = some (.loop { rec .ready none with state := .busy }) := World.putObj_heap_same hlt
      have hk2 : (W.putObj (w.heap.size + 1) (.loop { rec .ready none with state := .busy })).heap[w.heap.size]? = some (.deferred (some [])) := (World.putObj_heap_other (by omega)).trans hk
      refine wpIn_mono (hbody _ x _ (by omega) (hJ x _ _ _ _ hi (by omega) hl rfl)) ?_
      have fin : ∀ (jump : Option Code) (W3 : World), KeepsBook (W.putObj (w.heap.size + 1) (.loop { rec .ready none with state := .busy })) W3 →
          (Instr.endRound (w.heap.size + 1) jump).run P W3 = .ok (.bool jump.isNone) (W3.putObj (w.heap.size + 1) (.loop (rec (if jump.isNone then .ready else .done) jump))) ∧
          W3.heap[w.heap.size + 1]? = some (.loop { rec .ready none with state := .busy }) ∧
          (W3.putObj (w.heap.size + 1) (.loop (rec (if jump.isNone then .ready else .done) jump))).heap[w.heap.size + 1]? = some (.loop (rec (if jump.isNone then .ready else .done) jump)) ∧
          (W3.putObj (w.heap.size + 1) (.loop (rec (if jump.isNone then .ready else .done) jump))).heap[w.heap.size]? = some (.deferred (some [])) := fun jump W3 hk3 => by
        have hl3 := hk3.same _ _ hl2 rfl
        have := run_endRound (P := P) jump hl3
        rw [hrec] at this ⊢
        exact ⟨this, by rw [hrec] at hl3; exact hl3, World.putObj_heap_same (Array.getElem?_eq_some_iff.1 hl3).1, (World.putObj_heap_other (by omega)).trans (hk3.same _ _ hk2 rfl)⟩
      rintro e a3 W3 hp
      cases e with
      | normal =>
        obtain ⟨hk3, hi3⟩ := hp
        obtain ⟨hr, hl3, hl4, hk4⟩ := fin none W3 hk3
        exact ⟨_, _, hr, .inl ⟨rfl, hJ' x _ _ _ _ hi3 (by omega) hl3 rfl, hl4, hk4⟩⟩
      | ret =>
        obtain ⟨hk3, hi3⟩ := hp
        obtain ⟨hr, hl3, hl4, hk4⟩ := fin (some .ret) W3 hk3
        exact ⟨_, _, hr, .inr ⟨rfl, .ret, hJx _ x _ _ _ _ hi3 (by omega) hl3 rfl, hl4, hk4⟩⟩
      | exit id =>
        obtain ⟨hk3, hi3⟩ := hp
        obtain ⟨hr, hl3, hl4, hk4⟩ := fin (some (.exit id)) W3 hk3
        exact ⟨_, _, hr, .inr ⟨rfl, .exit id, hJx _ x _ _ _ _ hi3 (by omega) hl3 rfl, hl4, hk4⟩⟩
      | goto t =>
        obtain ⟨hk3, hi3⟩ := hp
        obtain ⟨hr, hl3, hl4, hk4⟩ := fin (some (.goto t)) W3 hk3
        exact ⟨_, _, hr, .inr ⟨rfl, .goto t, hJx _ x _ _ _ _ hi3 (by omega) hl3 rfl, hl4, hk4⟩⟩
      | panic ch => exact hp.elim
      | outgrown => exact hp.elim
    · rintro e W2 ⟨⟨v, rfl⟩, (⟨hi, hl, hk⟩ | ⟨c, hi, hl, hk⟩)⟩
      · exact ⟨none, _, by have := run_endLoop (P := P) hl (by rw [hrec]; simp); rw [hrec] at this; exact this, hdone _ _ (Nat.le_refl _) (hFin _ _ _ _ hi (by omega) hl rfl) ((World.putObj_heap_other (by omega)).trans hk)⟩
      · exact ⟨some c, _, by have := run_endLoop (P := P) hl (by rw [hrec]; simp); rw [hrec] at this; exact this, hstop _ c _ (Nat.le_refl _) (hFinX c _ _ _ _ hi (by omega) hl rfl) ((World.putObj_heap_other (by omega)).trans hk)⟩
end Go.Proofs.YtdlojbabnelbdaaGreatDoor

/-
  Contracts of impl's runner in the words of a configuration: halts, step.
-/
namespace Go.Proofs.YtdlojbabnelbdaaGreatDoor
open Go.RowKit

/-- A runner that stands at a configuration, apart from the blocks of X. -/
def RunC (X : Nat → Prop) (w : World) (lo g : Nat) (sy st : Int) (A : Option Addr) (n k : Nat) (c : Conf) : Prop := SidesX X w lo g sy st A n k c.q c.xs.reverse c.ys.reverse

theorem halts_c {X : Nat → Prop} {w : World} {lo g : Nat} {sy st : Int} {A : Option Addr} {n k : Nat} {rs : List R3} {c : Conf} (hs : RunC X w lo g sy st A n k c) (hrs : S3 w A n rs) (hg : goodC sy st rs c) (hn : n ≤ 1048576) :
    Calls Tryz.prog 23 #[.pointer (some ⟨g, 0, none⟩)] w fun e w' => e = .returned (.bool (haltC sy rs c)) ∧ Below w.heap.size w w' := by
  obtain ⟨L, cl, R, d, hr, ol, or_, _⟩ := hs
  obtain ⟨h1, h2, h3, h4, hnl, h5, h6, hx2, hy2, hxm, hym, hrsv⟩ := conf_parts hg
  obtain ⟨a1, a2, a3, a4, idx, hidx, hlt⟩ := at_parts (ys := c.ys.reverse) h1 h2 h3 h4 hnl h5 h6 (fun y hy => hym y (List.mem_reverse.1 hy))
  have hget := ruleOf_get (rs := rs) (ys := c.ys) hidx hlt
  have hl : c.ys.reverse.length ≤ 1048576 := by rw [List.length_reverse]; omega
  have hln : rs.length = n := hrs.len
  exact halts_any g sy st A n k rs c.q L _ cl R _ d c.ys.reverse idx (ruleOf sy rs c.q c.ys) w hr hrs or_.rd hl a1 (by omega) a3 (by omega) (Lib.hid hidx) (by omega) (Lib.hid hget) hn

def StepC (X : Nat → Prop) (w w0 : World) (g : Nat) (sy st : Int) (A : Option Addr) (n k : Nat) (rs : List R3) (c : Conf) (e : Ending) (w' : World) : Prop :=
  e = .returned (.bool (roomC (nextC sy rs c))) ∧ RunC X w' w0.heap.size g sy st A n k (nextC sy rs c) ∧ Below w0.heap.size w0 w' ∧ Fr X w w' ∧ KeepsBook w w'

theorem isCells_own {w : World} {lo s n c b : Nat} {e : TypeId} {A : Option Addr} {cs : List Value} (h : Own w lo e s A n c cs) (hb : blk A = some b) : ¬ ∃ o : Obj, w.heap[b]? = some o ∧ o.isCells = false := by
  rintro ⟨o, ho, hc⟩
  rcases h.2 with ⟨rfl, _⟩ | ⟨b', off, cur, rfl, _, hg, _⟩
  · simp [blk] at hb
  · simp [blk] at hb; subst hb
    rw [hg] at ho; cases ho; cases hc

theorem step_c {X : Nat → Prop} {w w0 : World} {g : Nat} {sy st : Int} {A : Option Addr} {n k : Nat} {rs : List R3} {c : Conf} (hs : RunC X w w0.heap.size g sy st A n k c) (hXg : ¬ X g) (hXt : ∀ b, X b → b < w.heap.size) (hrs : S3 w0 A n rs) (hb0 : Below w0.heap.size w0 w) (hg0 : w0.heap.size ≤ g) (hg : goodC sy st rs c) (hn : n ≤ 1048576) :
    Calls Tryz.prog 45 #[.pointer (some ⟨g, 0, none⟩)] w (StepC X w w0 g sy st A n k rs c) := by
  obtain ⟨L, cl, R, d, hr, ol, or_, hap, hXl, hXr⟩ := hs
  obtain ⟨h1, h2, h3, h4, hnl, h5, h6, hx2, hy2, hxm, hym, hrsv⟩ := conf_parts hg
  obtain ⟨a1, a2, a3, a4, idx, hidx, hlt⟩ := at_parts (ys := c.ys.reverse) h1 h2 h3 h4 hnl h5 h6 (fun y hy => hym y (List.mem_reverse.1 hy))
  have hget := ruleOf_get (rs := rs) (ys := c.ys) hidx hlt
  have hln : rs.length = n := hrs.len
  refine (step_x (fun b => X b ∨ ∃ o : Obj, w.heap[b]? = some o ∧ o.isCells = false) w0 g sy st A n k rs c.q c.xs.reverse c.ys.reverse idx (ruleOf sy rs c.q c.ys) w
    ⟨L, cl, R, d, hr, ol, or_, hap, fun b hb h => h.elim (hXl b hb) (isCells_own ol hb), fun b hb h => h.elim (hXr b hb) (isCells_own or_ hb)⟩
    (Lib.hid (fun h => h.elim hXg (fun ⟨o, ho, hc⟩ => by rw [show w.heap[g]? = _ from hr] at ho; cases ho; cases hc)))
    (Lib.hid (fun b h => h.elim (hXt b) (fun ⟨o, ho, _⟩ => (Array.getElem?_eq_some_iff.1 ho).1)))
    hrs hb0 hg0 (by rw [List.length_reverse]; omega) (by rw [List.length_reverse]; omega) a1 (by omega) a3 (by omega) (Lib.hid hidx) (by omega) (Lib.hid hget) hn).mono ?_
  rintro e w' ⟨he, ⟨L', cl', R', d', hr', ol', or', hap', hXl', hXr'⟩, hz, hf⟩
  refine ⟨?_, ⟨L', cl', R', d', ?_, ?_, ?_, hap', fun b hb h => hXl' b hb (.inl h), fun b hb h => hXr' b hb (.inl h)⟩, hz, ⟨hf.size, fun b hb hl => hf.same b (.inl hb) hl⟩, ⟨hf.size, fun k o hk ho => (hf.same k (.inr ⟨o, hk, book_cells ho⟩) (Array.getElem?_eq_some_iff.1 hk).1).trans hk⟩⟩
  · rw [he]
    refine ret_bool ?_
    unfold roomC nextC stepC roomB
    simp
  · simpa [nextC, stepC] using hr'
  · simpa [nextC, stepC] using ol'
  · simpa [nextC, stepC] using or'

theorem Own.fr {X : Nat → Prop} {w w' : World} {A : Option Addr} {n c s lo : Nat} {e : TypeId} {cs : List Value} (h : Own w lo e s A n c cs) (hf : Fr X w w') (hX : ∀ b, blk A = some b → X b) : Own w' lo e s A n c cs :=
  h.kept (fun b hb _ hlt => hf.same b (hX b hb) hlt)
theorem Blk.fr {X : Nat → Prop} {w w' : World} {g : Nat} {t : TypeId} {cs : Array Value} (h : Blk w g t cs) (hf : Fr X w w') (hX : X g) : Blk w' g t cs := (hf.same g hX h.lt).trans h
theorem RunC.below {X : Nat → Prop} {w w' : World} {lo g : Nat} {sy st : Int} {A : Option Addr} {n k : Nat} {c : Conf} (h : RunC X w lo g sy st A n k c) (z : Below w.heap.size w w') : RunC X w' lo g sy st A n k c := by
  obtain ⟨L, cl, R, d, hr, ol, or_, hap, hXl, hXr⟩ := h
  exact ⟨L, cl, R, d, Blk.below' hr z, ol.below z, or_.below z, hap, hXl, hXr⟩
theorem keeps_below {w w' : World} (z : Below w.heap.size w w') : KeepsBook w w' := ⟨z.size, fun k _ hk _ => (z.block k (Array.getElem?_eq_some_iff.1 hk).1).trans hk⟩
-- a turn of a block that holds no cells
theorem put_cells {W : World} {l b : Nat} {o o' : Obj} {cur : Array Value} {t : TypeId} {f : Nat × Nat} (hl : W.heap[l]? = some o) (ho : isBook o = true) (hb : W.heap[b]? = some (.cells cur t f)) : (W.putObj l o').heap[b]? = some (.cells cur t f) := by
  refine (World.putObj_heap_other ?_).trans hb
  rintro rfl
  rw [hb] at hl; cases hl; cases ho
theorem Blk.put {W : World} {l g : Nat} {o : Obj} {t : TypeId} {cs : Array Value} (h : Blk W g t cs) (o' : Obj) (hl : W.heap[l]? = some o) (ho : isBook o = true) : Blk (W.putObj l o') g t cs := put_cells hl ho h
theorem Own.put {W : World} {l : Nat} {o : Obj} {A : Option Addr} {n c s lo : Nat} {e : TypeId} {cs : List Value} (h : Own W lo e s A n c cs) (o' : Obj) (hl : W.heap[l]? = some o) (ho : isBook o = true) : Own (W.putObj l o') lo e s A n c cs := by
  rcases h.2 with ⟨rfl, h1, h2⟩ | ⟨b, off, cur, rfl, h1, hg, h2⟩
  · exact ⟨h.1, .inl ⟨rfl, h1, h2⟩⟩
  · exact ⟨h.1, .inr ⟨b, off, cur, rfl, h1, put_cells hl ho hg, h2⟩⟩
theorem RunC.put {X : Nat → Prop} {W : World} {l lo g : Nat} {sy st : Int} {A : Option Addr} {n k : Nat} {c : Conf} {o : Obj} (h : RunC X W lo g sy st A n k c) (o' : Obj) (hl : W.heap[l]? = some o) (ho : isBook o = true) : RunC X (W.putObj l o') lo g sy st A n k c := by
  obtain ⟨L, cl, R, d, hr, ol, or_, hap, hXl, hXr⟩ := h
  exact ⟨L, cl, R, d, Blk.put hr o' hl ho, ol.put o' hl ho, or_.put o' hl ho, hap, hXl, hXr⟩
theorem below_put {W w : World} {B l : Nat} {o : Obj} (h : Below B w W) (hB : B ≤ l) (o' : Obj) (hl : W.heap[l]? = some o) : Below B w (W.putObj l o') :=
  h.trans ((Below.refl B W).grown (grownBy_putObj' W l o') (by have := (Array.getElem?_eq_some_iff.1 hl).1; omega) (fun k e => by cases e; omega))
theorem fr_put {X : Nat → Prop} {W : World} {l : Nat} {o : Obj} (o' : Obj) (hX : ∀ b, X b → ∃ o : Obj, W.heap[b]? = some o ∧ isBook o = false) (hl : W.heap[l]? = some o) (ho : isBook o = true) : Fr X W (W.putObj l o') :=
  ⟨by simp, fun b hb _ => World.putObj_heap_other (by rintro rfl; obtain ⟨o2, h2, h3⟩ := hX _ hb; rw [hl] at h2; cases h2; rw [ho] at h3; cases h3)⟩
end Go.Proofs.YtdlojbabnelbdaaGreatDoor

/-
  The contract of impl's iterator runner.steps.
-/
namespace Go.Proofs.YtdlojbabnelbdaaGreatDoor
open Go.RowKit Go.Shelf
attribute [local go_sem] Oper.semAt_some

/-- The blocks of X hold cells. -/
def XC (X : Nat → Prop) (W : World) : Prop := ∀ b, X b → ∃ o : Obj, W.heap[b]? = some o ∧ isBook o = false
theorem XC.lt {X : Nat → Prop} {W : World} (h : XC X W) : ∀ b, X b → b < W.heap.size := fun b hb => by obtain ⟨o, ho, _⟩ := h b hb; exact (Array.getElem?_eq_some_iff.1 ho).1
theorem XC.fr {X : Nat → Prop} {W W' : World} (h : XC X W) (hf : Fr X W W') : XC X W' := fun b hb => by
  obtain ⟨o, ho, hc⟩ := h b hb
  exact ⟨o, (hf.same b hb (Array.getElem?_eq_some_iff.1 ho).1).trans ho, hc⟩

/-- The machine that runs, as the iterator's contract speaks of it. -/
structure Rn where
  w0 : World
  g : Nat
  mb : Nat
  rb : Nat
  sy : Int
  st : Int
  A : Option Addr
  n : Nat
  k : Nat
  rs : List R3
  c : Conf
  most : Nat
/-- What is known of it once and for all. -/
structure Rn.Ok (p : Rn) : Prop where
  good : goodC p.sy p.st p.rs p.c
  rules : S3 p.w0 p.A p.n p.rs
  hg : p.w0.heap.size ≤ p.g
  hn : p.n ≤ 1048576
  hm : p.most ≤ 1000000
abbrev Rn.it (p : Rn) (i : Nat) : Conf := itC p.sy p.rs p.c i

/-- The runner stands behind i steps; D: the caller's own word on blocks X apart from the runner's. -/
def StS (p : Rn) (i : Nat) (D : (Nat → Prop) → World → Prop) (W : World) : Prop :=
  ∃ X, ¬ X p.g ∧ X p.mb ∧ X p.rb ∧ XC X W ∧ RunC X W p.w0.heap.size p.g p.sy p.st p.A p.n p.k (p.it i) ∧ Below p.w0.heap.size p.w0 W ∧ Blk W p.mb 2 #[.int .i64 (p.most : Int)] ∧ Blk W p.rb 47 #[.pointer (some ⟨p.g, 0, none⟩)] ∧ D X W
def StD (D : (Nat → Prop) → World → Prop) : Prop := ∀ X W W', D X W → Fr X W W' → D X W'
theorem StS.fr {p : Rn} {i : Nat} {D : (Nat → Prop) → World → Prop} (hD : StD D) {W W' : World} (h : StS p i D W) (z : Below W.heap.size W W') : StS p i D W' := by
  obtain ⟨X, h1, h2, h3, h4, h5, h6, h7, h8, h9⟩ := h
  have hf : Fr X W W' := Fr.of_below z
  exact ⟨X, h1, h2, h3, h4.fr hf, h5.below z, h6.trans (z.mono h6.size), h7.fr hf h2, h8.fr hf h3, hD X W W' h9 hf⟩
theorem StS.put {p : Rn} {i b0 : Nat} {D : (Nat → Prop) → World → Prop} (hD : StD D) (hb : p.w0.heap.size ≤ b0) : PutOk b0 (StS p i D) := by
  rintro W l o o' ⟨X, h1, h2, h3, h4, h5, h6, h7, h8, h9⟩ hl hg ho
  have hf : Fr X W (W.putObj l o') := fr_put o' h4 hg ho
  exact ⟨X, h1, h2, h3, h4.fr hf, h5.put o' hg ho, below_put h6 (by omega) o' hg, h7.fr hf h2, h8.fr hf h3, hD X W _ h9 hf⟩

def stJ (p : Rn) (D : Nat → (Nat → Prop) → World → Prop) : Nat × Bool → World → Prop
  | (i, true), W => i ≤ p.most ∧ Alive p.sy p.rs p.c i ∧ StS p i (D i) W
  | (i, false), W => (∃ j, i = j + 1 ∧ Full p.sy p.rs p.c p.most j) ∧ Below p.w0.heap.size p.w0 W ∧ ∃ X, XC X W ∧ D i X W
def stJ' (p : Rn) (D : Nat → (Nat → Prop) → World → Prop) : Nat × Bool → World → Prop
  | (i, true), W => i ≤ p.most ∧ Alive p.sy p.rs p.c i ∧ StS p i (D (i + 1)) W
  | (_, false), _ => False
def stFin (p : Rn) (D : Nat → (Nat → Prop) → World → Prop) (W : World) : Prop := ∃ i, Ended p.sy p.rs p.c p.most i ∧ StS p i (D (i + 1)) W
abbrev stEnc (x : Nat × Bool) : Array Value := #[.int .i64 (x.1 : Int), .bool x.2]

theorem stJ_put {p : Rn} {D : Nat → (Nat → Prop) → World → Prop} {b0 : Nat} (hD : ∀ i, StD (D i)) (hb : p.w0.heap.size ≤ b0) (x : Nat × Bool) : PutOk b0 (stJ p D x) := by
  obtain ⟨i, b⟩ := x
  cases b
  · rintro W l o o' ⟨h1, h2, X, h3, h4⟩ hl hg ho
    have hf : Fr X W (W.putObj l o') := fr_put o' h3 hg ho
    exact ⟨h1, below_put h2 (by omega) o' hg, X, h3.fr hf, hD i X W _ h4 hf⟩
  · rintro W l o o' ⟨h1, h2, h3⟩ hl hg ho
    exact ⟨h1, h2, StS.put (hD i) hb W l o o' h3 hl hg ho⟩
theorem stJ'_put {p : Rn} {D : Nat → (Nat → Prop) → World → Prop} {b0 : Nat} (hD : ∀ i, StD (D i)) (hb : p.w0.heap.size ≤ b0) (x : Nat × Bool) : PutOk b0 (stJ' p D x) := by
  obtain ⟨i, b⟩ := x
  cases b
  · rintro W l o o' h
    exact h.elim
  · rintro W l o o' ⟨h1, h2, h3⟩ hl hg ho
    exact ⟨h1, h2, StS.put (hD (i + 1)) hb W l o o' h3 hl hg ho⟩
theorem stFin_put {p : Rn} {D : Nat → (Nat → Prop) → World → Prop} {b0 : Nat} (hD : ∀ i, StD (D i)) (hb : p.w0.heap.size ≤ b0) : PutOk b0 (stFin p D) := by
  rintro W l o o' ⟨i, h1, h3⟩ hl hg ho
  exact ⟨i, h1, StS.put (hD (i + 1)) hb W l o o' h3 hl hg ho⟩

set_option maxHeartbeats 2000000 in
theorem steps1_seq (p : Rn) (hp : p.Ok) (D : Nat → (Nat → Prop) → World → Prop) (hD : ∀ i, StD (D i)) (Jx : Code → Nat × Bool → World → Prop) (n : Nat) :
    SeqC Fence.wide n Tryz.prog 44 #[.pointer (some ⟨p.mb, 0, none⟩), .pointer (some ⟨p.rb, 0, none⟩)] stEnc (stJ p D) (stJ' p D) Jx (StS p 0 (D 0)) (stFin p D) (fun c W => ∃ x, Jx c x W) := by
  intro l B Bx hB hBx hY W h0 hB0
  have hmost := hp.hm
  have HB := Lib.hid hB
  have HY := Lib.hid hY
  have HD := Lib.hid hD
  clear hB hBx hY hD
  refine callsIn_of_wp Tryz.func44 rfl trivial ?_ rfl
  simp only [Tryz.ntmps44, List.size_toArray, List.length_cons, List.length_nil, Nat.reduceAdd, Nat.reduceSub, Array.replicate_succ, Array.replicate_zero, List.push_toArray, List.append_toArray, List.nil_append, List.cons_append]
  gi_wp2
  gi_loopw [4] (fun s wr => ∃ i : Nat, s = .int .i64 (i : Int) ∧ i ≤ p.most ∧ Alive p.sy p.rs p.c i ∧ StS p i (D i) wr ∧ B wr) (fun s _ => p.most - (intOf s).toNat)
  case atStart => exact ⟨0, rfl, Nat.zero_le _, Alive.zero _ _ _, h0, hB0⟩
  case round =>
    obtain ⟨i, rfl, hi, hal, hst, hb⟩ := hrel
    have HAL := Lib.hid hal
    clear hal
    obtain ⟨fn, tmps, assign, body, hy, hR⟩ := HY.out (i, true) wr ⟨hi, HAL.out, hst⟩ hb
    dsimp only [stEnc] at hy
    gi_wp2
    refine ⟨(fun h => by cases h), hR.mono ?_⟩
    rintro e W3 (⟨rfl, ⟨_, _, hst3⟩, hb3⟩ | ⟨rfl, c, hx3, hbx3⟩)
    · have hgood := HAL.out.good hp.good
      have HGOOD := Lib.hid hgood
      clear hgood
      obtain ⟨X, hXg, hXm, hXr, hXC, hrun, hz3, bm, br, hd⟩ := hst3
      have m0 : W3.cell? ⟨p.mb, 0, none⟩ = some (.int .i64 (p.most : Int)) := bm.cell 0
      have r0 : W3.cell? ⟨p.rb, 0, none⟩ = some (.pointer (some ⟨p.g, 0, none⟩)) := br.cell 0
      have HXG := Lib.hid hXg
      have HXC := Lib.hid hXC
      have HDD := Lib.hid hd
      clear hXg hXC hd
      by_cases hlt : i < p.most
      · have hrs3 : S3 W3 p.A p.n p.rs := hp.rules.below hz3
        have hhalt := halts_c hrun hrs3 HGOOD.out hp.hn
        have HHALT := Lib.hid hhalt
        clear hhalt
        cases hh : haltC p.sy p.rs (p.it i) with
        | true =>
          have HH := Lib.hid hh
          clear hh
          gi_wp2
          refine ⟨trivial, (fun h => by cases h), (callsIn_wide.2 HHALT.out).mono ?_⟩
          rintro e W4 ⟨rfl, z4⟩
          rw [HH.out]
          gi_wp2
          have hst4 : StS p i (D (i + 1)) W4 := StS.fr (HD.out _) ⟨X, HXG.out, hXm, hXr, HXC.out, hrun, hz3, bm, br, HDD.out⟩ z4
          exact bodyPost_end (results_none rfl _ _ _) rfl ⟨⟨_, rfl⟩, .inl ⟨⟨i, ⟨hi, HAL.out, .inr HH.out⟩, hst4⟩, HB.out _ _ hb3 (keeps_below z4)⟩⟩
        | false =>
          have HH := Lib.hid hh
          clear hh
          gi_wp2
          refine ⟨trivial, (fun h => by cases h), (callsIn_wide.2 HHALT.out).mono ?_⟩
          rintro e W4 ⟨rfl, z4⟩
          rw [HH.out]
          have hst4 : StS p i (D (i + 1)) W4 := StS.fr (HD.out _) ⟨X, HXG.out, hXm, hXr, HXC.out, hrun, hz3, bm, br, HDD.out⟩ z4
          have hb4 := HB.out _ _ hb3 (keeps_below z4)
          clear HHALT m0 r0 HDD bm br hrun hz3 HXC HXG hXm hXr hb3 hst hb z4 hrs3 hR hy h0 hB0
          obtain ⟨X, hXg, hXm, hXr, hXC, hrun, hz4, bm, br, hd⟩ := hst4
          have r0 : W4.cell? ⟨p.rb, 0, none⟩ = some (.pointer (some ⟨p.g, 0, none⟩)) := br.cell 0
          have hstep := step_c hrun hXg hXC.lt hp.rules hz4 hp.hg HGOOD.out hp.hn
          have HSTEP := Lib.hid hstep
          have HXG := Lib.hid hXg
          have HXC := Lib.hid hXC
          have HDD := Lib.hid hd
          clear hstep hXg hXC hd
          gi_wp2
          refine ⟨trivial, (fun h => by cases h), (callsIn_wide.2 HSTEP.out).mono ?_⟩
          rintro e W5 ⟨rfl, hrun5, hz5, hf5, hk5⟩
          have hb5 := HB.out _ _ hb4 hk5
          have HDD5 : Hid (D (i + 1) X W5) := HD.out _ X _ _ HDD.out hf5
          have HXC5 : Hid (XC X W5) := HXC.out.fr hf5
          have bm5 := bm.fr hf5 hXm
          have br5 := br.fr hf5 hXr
          cases hro : roomC (nextC p.sy p.rs (p.it i)) with
          | true =>
            have HRO := Lib.hid hro
            clear hro
            gi_wp2
            go_roundw
            case rel => exact ⟨i + 1, by go_num, by omega, HAL.out.next HH.out HRO.out, ⟨X, HXG.out, hXm, hXr, HXC5.out, hrun5, hz5, bm5, br5, HDD5.out⟩, hb5⟩
            case measure => simp [intOf]; omega
          | false =>
            have HRO := Lib.hid hro
            clear hro
            obtain ⟨fn, tmps, assign, body, hy, hR⟩ := HY.out (i + 1, false) W5 ⟨⟨i, rfl, hlt, HAL.out, HH.out, HRO.out⟩, hz5, X, HXC5.out, HDD5.out⟩ hb5
            dsimp only [stEnc] at hy
            rw [show ((i + 1 : Nat) : Int) = (i : Int) + 1 from by omega] at hy
            gi_wp2
            refine ⟨(fun h => by cases h), hR.mono ?_⟩
            rintro e W6 (⟨rfl, hF, _⟩ | ⟨rfl, c, hx6, hbx6⟩)
            · exact hF.elim
            · gi_wp2
              exact bodyPost_ret (results_none rfl _ _ _) rfl ⟨⟨_, rfl⟩, .inr ⟨c, ⟨_, hx6⟩, hbx6⟩⟩
      · gi_wp2
        refine ⟨trivial, ?_⟩
        gi_wp2
        exact bodyPost_end (results_none rfl _ _ _) rfl ⟨⟨_, rfl⟩, .inl ⟨⟨i, ⟨hi, HAL.out, .inl (by omega)⟩, X, HXG.out, hXm, hXr, HXC.out, hrun, hz3, bm, br, HDD.out⟩, hb3⟩⟩
    · gi_wp2
      refine ⟨trivial, ?_⟩
      gi_wp2
      exact bodyPost_end (results_none rfl _ _ _) rfl ⟨⟨_, rfl⟩, .inr ⟨c, ⟨_, hx3⟩, hbx3⟩⟩
end Go.Proofs.YtdlojbabnelbdaaGreatDoor

/-
  Contracts of impl's runner.steps and runner.run.
-/
namespace Go.Proofs.YtdlojbabnelbdaaGreatDoor
open Go.RowKit Go.Shelf
attribute [local go_sem] Oper.semAt_some

theorem steps_any (g : Nat) (most : Int) (w : World) :
    Calls Tryz.prog 19 #[.pointer (some ⟨g, 0, none⟩), .int .i64 most] w fun e w' => e = .returned (.func (.func 44) #[] #[.pointer (some ⟨w.heap.size + 1, 0, none⟩), .pointer (some ⟨w.heap.size, 0, none⟩)]) ∧
      w' = (w.alloc (.cells #[.pointer (some ⟨g, 0, none⟩)] 47)).alloc (.cells #[.int .i64 most] 2) := by
  go_enter Tryz.func19, Tryz.ntmps19
  go_wp2_with fail
  go_ret
  exact ⟨rfl, rfl⟩

theorem Own.set_far {w : World} {A : Option Addr} {n c s lo b o : Nat} {e : TypeId} {cs : List Value} (h : Own w lo e s A n c cs) (hb : blk A ≠ some b) (u : Value) : Own (w.setCell ⟨b, o, none⟩ u) lo e s A n c cs := h.far (p := ⟨b, o, none⟩) hb u
theorem RunC.set {X : Nat → Prop} {W : World} {lo g b o : Nat} {sy st : Int} {A : Option Addr} {n k : Nat} {c : Conf} (h : RunC X W lo g sy st A n k c) (hg : ¬ X g) (hb : X b) (u : Value) : RunC X (W.setCell ⟨b, o, none⟩ u) lo g sy st A n k c := by
  obtain ⟨L, cl, R, d, hr, ol, or_, hap, hXl, hXr⟩ := h
  exact ⟨L, cl, R, d, Blk.far hr (p := ⟨b, o, none⟩) (fun e => hg (by rw [e]; exact hb)) u, ol.set_far (fun e => hXl b e hb) u, or_.set_far (fun e => hXr b e hb) u, hap, hXl, hXr⟩
theorem isCells_set {W : World} {b o j : Nat} {u : Value} {ob : Obj} (h : W.heap[j]? = some ob) (hc : isBook ob = false) : ∃ o' : Obj, (W.setCell ⟨b, o, none⟩ u).heap[j]? = some o' ∧ isBook o' = false := by
  cases hcl : ob.isCells
  · exact ⟨ob, (KeepsOthers.setCell W ⟨b, o, none⟩ u).same j ob h hcl, hc⟩
  · by_cases e : j = b
    · subst e
      cases ob with
      | cells cur t f =>
        refine ⟨.cells (cur.setIfInBounds o u) t f, ?_, rfl⟩
        simp [World.setCell, Array.getElem?_modify, h]
      | _ => cases hcl
    · exact ⟨ob, (Below.heap_setCell W ⟨b, o, none⟩ u j e).trans h, hc⟩
theorem XC.set {X : Nat → Prop} {W : World} (h : XC X W) (b o : Nat) (u : Value) : XC X (W.setCell ⟨b, o, none⟩ u) := fun j hj => by
  obtain ⟨ob, h1, h2⟩ := h j hj
  exact isCells_set h1 h2
/-- A store into a block of the caller's own. -/
theorem StS.set {p : Rn} {i b o : Nat} {u : Value} {D D' : (Nat → Prop) → World → Prop} {W : World} (h : StS p i D W) (h1 : b ≠ p.mb) (h2 : b ≠ p.rb) (h3 : p.w0.heap.size ≤ b) (hb : ∀ X, D X W → X b) (hD : ∀ X, D X W → D' X (W.setCell ⟨b, o, none⟩ u)) : StS p i D' (W.setCell ⟨b, o, none⟩ u) := by
  obtain ⟨X, k1, k2, k3, k4, k5, k6, k7, k8, k9⟩ := h
  exact ⟨X, k1, k2, k3, k4.set b o u, k5.set k1 (hb X k9) u, k6.setCell (p := ⟨b, o, none⟩) h3 u, k7.far (p := ⟨b, o, none⟩) (Ne.symm h1) u, k8.far (p := ⟨b, o, none⟩) (Ne.symm h2) u, hD X k9⟩

/-- What run's own cells hold ahead of round i. -/
def runD (s : Nat) (i : Nat) (X : Nat → Prop) (W : World) : Prop :=
  X s ∧ X (s + 1) ∧ X (s + 1 + 1) ∧ X (s + 1 + 1 + 1) ∧ Blk W s 2 #[.int .i64 0] ∧ Blk W (s + 1) 4 #[.bool false] ∧ Blk W (s + 1 + 1) 2 #[.int .i64 0] ∧ Blk W (s + 1 + 1 + 1) 2 #[.int .i64 ((i - 1 : Nat) : Int)]
theorem runD_st (s i : Nat) : StD (runD s i) := by
  rintro X W W' ⟨h0, h1, h2, h3, b0, b1, b2, b3⟩ hf
  exact ⟨h0, h1, h2, h3, b0.fr hf h0, b1.fr hf h1, b2.fr hf h2, b3.fr hf h3⟩
def runJx (p : Rn) (s : Nat) (c : Code) (_x : Nat × Bool) (W : World) : Prop :=
  c = .ret ∧ (∃ j, Full p.sy p.rs p.c p.most j) ∧ Below p.w0.heap.size p.w0 W ∧ Blk W s 2 #[.int .i64 0] ∧ Blk W (s + 1) 4 #[.bool false] ∧ Blk W (s + 1 + 1) 2 #[.int .i64 5]
theorem runJx_put {p : Rn} {s b0 : Nat} {c : Code} {x : Nat × Bool} (hb : p.w0.heap.size ≤ b0) : PutOk b0 (runJx p s c x) := by
  rintro W l o o' ⟨h1, h2, h3, h4, h5, h6⟩ hl hg ho
  exact ⟨h1, h2, below_put h3 (by omega) o' hg, h4.put o' hg ho, h5.put o' hg ho, h6.put o' hg ho⟩

/-- What run leaves. -/
def RunP (w0 : World) (g : Nat) (sy st : Int) (A : Option Addr) (n k : Nat) (rs : List R3) (c : Conf) (most : Nat) (e : Ending) (w' : World) : Prop :=
  ((∃ i, Ended sy rs c most i ∧ e = .returned (.tuple #[.int .i64 (i : Int), .bool (haltC sy rs (itC sy rs c i)), .int .i64 0]) ∧ RunC (fun _ => False) w' w0.heap.size g sy st A n k (itC sy rs c i)) ∨
    (∃ i, Full sy rs c most i) ∧ e = .returned (.tuple #[.int .i64 0, .bool false, .int .i64 5])) ∧ Below w0.heap.size w0 w'

end Go.Proofs.YtdlojbabnelbdaaGreatDoor

/-
  Contracts of impl's budgetOk, runCode, budgeted, blankRun, freeRules.
-/
namespace Go.Proofs.YtdlojbabnelbdaaGreatDoor
open Go.RowKit

theorem budgetOk_any (b : Int) (w : World) : Calls Tryz.prog 62 #[.int .i64 b] w fun e w' => e = .returned (.bool (inB b 1 20000)) ∧ w = w' := by
  go_enter Tryz.func62, Tryz.ntmps62
  go_wp2_with (go_at_call 79; refine (within_any _ _ _ _).mono ?_; rintro e w' ⟨rfl, rfl⟩)
  go_ret
  exact ⟨rfl, rfl⟩
theorem budgetOk_is {b : Int} {v : Bool} (h : inB b 1 20000 = v) (w : World) : Calls Tryz.prog 62 #[.int .i64 b] w fun e w' => e = .returned (.bool v) ∧ w = w' := h ▸ budgetOk_any b w

/-- The code for a machine, a configuration and a budget. -/
def codeF (sy st : Int) (rs : List R3) (c : Conf) (b : Int) : Int := if validConfB sy st rs c.q c.xs c.ys then (if inB b 1 20000 then 0 else 2) else 1

set_option maxHeartbeats 1000000 in
theorem runCode_any (sy st : Int) (A : Option Addr) (n k : Nat) (rs : List R3) (c : Conf) (B : Option Addr) (m c' : Nat) (C : Option Addr) (l d : Nat) (b : Int) (w : World) (hr : S3 w A n rs) (hx : SI w B m c.xs) (hy : SI w C l c.ys) (hn : n ≤ 1048576) (hm : m ≤ 1048576) (hl : l ≤ 1048576) :
    Calls Tryz.prog 42 #[.agg #[.int .i64 sy, .int .i64 st, .slice A n k], .agg #[.int .i64 c.q, .slice B m c', .slice C l d], .int .i64 b] w fun e w' => e = .returned (.int .i64 (codeF sy st rs c b)) ∧ Below w.heap.size w w' := by
  obtain ⟨W, hW⟩ : ∃ W, W = (w.alloc (.cells #[.int .i64 sy, .int .i64 st, .slice A n k] 34)).alloc (.cells #[.int .i64 c.q, .slice B m c', .slice C l d] 57) := ⟨_, rfl⟩
  have y0 : Below w.heap.size w W := by rw [hW]; exact ((Below.refl _ _).alloc (Nat.le_refl _) _).alloc (by simp) _
  have HW := Lib.hid hW
  clear hW
  go_enter Tryz.func42, Tryz.ntmps42
  go_wp2_with fail
  rw [← HW.out]
  refine (validConfig_any _ _ _ _ _ rs _ _ _ _ c.xs _ _ _ c.ys _ (hr.below y0) (hx.below y0) (hy.below y0) hn hm hl).mono ?_
  rintro e w2 ⟨rfl, z2⟩
  have y2 : Below w.heap.size w w2 := y0.trans (z2.mono y0.size)
  cases hv : validConfB sy st rs c.q c.xs c.ys with
  | false =>
    have HV := Lib.hid hv
    clear hv
    go_wp2_with fail
    go_ret
    exact ⟨ret_int (by unfold codeF; rw [HV.out]; rfl), y2⟩
  | true =>
    have HV := Lib.hid hv
    clear hv
    cases hb : inB b 1 20000 with
    | false =>
      have HB := Lib.hid hb
      clear hb
      go_wp2_with (go_at_call 62; refine (budgetOk_is HB.out _).mono ?_; rintro e w' ⟨rfl, rfl⟩)
      go_ret
      exact ⟨ret_int (by unfold codeF; rw [HV.out, HB.out]; rfl), y2⟩
    | true =>
      have HB := Lib.hid hb
      clear hb
      go_wp2_with (go_at_call 62; refine (budgetOk_is HB.out _).mono ?_; rintro e w' ⟨rfl, rfl⟩)
      go_ret
      exact ⟨ret_int (by unfold codeF; rw [HV.out, HB.out]; rfl), y2⟩

/-- The blank configuration. -/
def blankC : Conf := ⟨0, [], []⟩

set_option maxHeartbeats 1000000 in
theorem budgeted_any (sy st : Int) (A : Option Addr) (n k : Nat) (rs : List R3) (b : Int) (w : World) (hr : S3 w A n rs) (hn : n ≤ 1048576) :
    Calls Tryz.prog 17 #[.agg #[.int .i64 sy, .int .i64 st, .slice A n k], .int .i64 b] w fun e w' => e = .returned (.int .i64 (codeF sy st rs blankC b)) ∧ Below w.heap.size w w' := by
  obtain ⟨W, hW⟩ : ∃ W, W = w.alloc (.cells #[.int .i64 sy, .int .i64 st, .slice A n k] 34) := ⟨_, rfl⟩
  have y0 : Below w.heap.size w W := by rw [hW]; exact (Below.refl _ _).alloc (Nat.le_refl _) _
  have HW := Lib.hid hW
  clear hW
  go_enter Tryz.func17, Tryz.ntmps17
  go_wp2_with fail
  rw [← HW.out]
  refine (runCode_any _ _ _ _ _ rs blankC _ _ _ _ _ _ _ _ (hr.below y0) SI.nil SI.nil hn (by omega) (by omega)).mono ?_
  rintro e w2 ⟨rfl, z2⟩
  go_wp2_with fail
  go_ret
  exact ⟨rfl, y0.trans (z2.mono y0.size)⟩

set_option maxHeartbeats 1000000 in
theorem blankRun_any (sy st : Int) (A : Option Addr) (n k : Nat) (w : World) :
    Calls Tryz.prog 18 #[.agg #[.int .i64 sy, .int .i64 st, .slice A n k]] w (NewRunner w sy st A n k 0 [] []) := by
  obtain ⟨W, hW⟩ : ∃ W, W = w.alloc (.cells #[.int .i64 sy, .int .i64 st, .slice A n k] 34) := ⟨_, rfl⟩
  have y0 : Below w.heap.size w W := by rw [hW]; exact (Below.refl _ _).alloc (Nat.le_refl _) _
  have HW := Lib.hid hW
  clear hW
  go_enter Tryz.func18, Tryz.ntmps18
  go_wp2_with fail
  rw [← HW.out]
  refine (runnerOf_any _ _ _ _ _ _ _ _ _ [] _ _ _ [] _ SI.nil SI.nil (by omega) (by omega)).mono ?_
  rintro e w2 ⟨g, L, c, R, d, rfl, hg, hrun, ol, or_, hap, z⟩
  have HAP := Lib.hid hap
  clear hap
  go_wp2_with fail
  go_ret
  exact ⟨g, L, c, R, d, rfl, by have := y0.size; omega, hrun, ol.mono y0.size, or_.mono y0.size, HAP.out, y0.trans (z.mono y0.size)⟩
theorem NewRunner.runC {w w' : World} {sy st : Int} {A : Option Addr} {n k : Nat} {q : Int} {xs ys : List Int} {g c d : Nat} {L R : Option Addr} (hrun : RunAt w' g sy st A n k q L xs.length c R ys.length d) (ol : Own w' w.heap.size 2 1 L xs.length c (ints xs.reverse)) (or_ : Own w' w.heap.size 2 1 R ys.length d (ints ys.reverse)) (hap : ∀ b, blk L = some b → blk R ≠ some b) : RunC (fun _ => False) w' w.heap.size g sy st A n k ⟨q, xs, ys⟩ :=
  ⟨L, c, R, d, by simpa using hrun, by simpa using ol, by simpa using or_, hap, fun _ _ h => h, fun _ _ h => h⟩

/-- The indices at which there is no rule, below k. -/
def freeTo (rs : List R3) (k : Nat) : List Int := ((List.range k).filter (fun i => !isRuleB (rs.getD i ⟨0, 0, -1⟩))).map (fun i : Nat => (i : Int))
def freeF (rs : List R3) : List Int := freeTo rs rs.length
theorem freeTo_len (rs : List R3) (k : Nat) : (freeTo rs k).length ≤ k := by
  unfold freeTo
  rw [List.length_map]
  have := List.length_filter_le (fun i => !isRuleB (rs.getD i ⟨0, 0, -1⟩)) (List.range k)
  simpa using this
theorem freeTo_yes {rs : List R3} {k : Nat} {r : R3} (h : rs[k]? = some r) (hr : isRuleB r = false) : freeTo rs (k + 1) = freeTo rs k ++ [(k : Int)] := by
  unfold freeTo
  rw [List.range_succ, List.filter_append, List.map_append]
  congr 1
  simp [h, hr]
theorem freeTo_no {rs : List R3} {k : Nat} {r : R3} (h : rs[k]? = some r) (hr : isRuleB r = true) : freeTo rs (k + 1) = freeTo rs k := by
  unfold freeTo
  rw [List.range_succ, List.filter_append, List.map_append]
  simp [h, hr]

end Go.Proofs.YtdlojbabnelbdaaGreatDoor
