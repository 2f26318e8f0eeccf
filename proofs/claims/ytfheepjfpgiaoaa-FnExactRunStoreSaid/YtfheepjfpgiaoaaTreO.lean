/-
  Contract of impl's treeOf.
-/
import Derived.Test.YtfheepjfpgiaoaaTreI
import Derived.Test.YtfheepjfpgiaoaaKb
namespace Go.Proofs.Ytfheepjfpgiaoaa
open Go.RowKit

theorem KT.kb {w w' : World} {b : Nat} {t : TypeId} {cur : Array Value} (k : Kb b w w') (hb : Blk w b t cur) (ht : t ≠ 224) : KT w w' := fun g cs x => k.blk_ x (fun e => by
  subst e
  have h1 := Eq.trans (Eq.symm hb) x
  simp at h1
  exact ht h1.2)
theorem SB.kb {w w' : World} {b : Nat} {A : Option Addr} {n : Nat} {bs : List Bool} (h : SB w A n bs) (k : Kb b w w') (hA : blk A ≠ some b) : SB w' A n bs :=
  Rd.keep h fun p hp e => World.cell?_of_block (k.block p.block hp (fun e2 => hA (by rw [← e, e2])))
theorem pre_at {l : List Bool} {k : Nat} {x : Bool} {r : List Bool} (h : l.drop k = x :: r) : l[k]? = some x ∧ l.drop (k + 1) = r := by
  have h1 := congrArg (·[0]?) h
  refine ⟨by simpa using h1, ?_⟩
  rw [← List.drop_drop, h]; rfl
theorem pre_tree {l : List Bool} {k : Nat} {t : Tr} {r : List Bool} (h : l.drop k = t.enc ++ r) : l.drop (k + t.nodes) = r := by
  rw [← List.drop_drop, h, ← enc_len, List.drop_left]
/-- The nodes of a tree are built; the place goes on behind them. -/
def BuildP (w : World) (t : Tr) (kb k : Nat) (e : Ending) (w' : World) : Prop := ∃ p, e = .returned (.pointer p) ∧ TrAt w' t p ∧ Blk w' kb 3 #[.int .i64 ((k + t.nodes : Nat) : Int)] ∧ Kb kb w w'
/-- What treeOf's own function finds. -/
structure BuildI (w : World) (A : Option Addr) (n c : Nat) (bs : List Bool) (tb kb bb k : Nat) : Prop where
  nodes : SB w A n bs
  far : blk A ≠ some kb
  bt : Blk w tb 43 #[.slice A n c]
  bk : Blk w kb 3 #[.int .i64 (k : Int)]
  bf : Blk w bb 132 #[.func (.func 186) #[] #[.pointer (some ⟨tb, 0, none⟩), .pointer (some ⟨kb, 0, none⟩), .pointer (some ⟨bb, 0, none⟩)]]
theorem Blk.ne {w : World} {a b : Nat} {s t : TypeId} {cs ds : Array Value} (h : Blk w a s cs) (h' : Blk w b t ds) (hst : s ≠ t) : a ≠ b := by
  rintro rfl
  have h1 := Eq.trans (Eq.symm h) h'
  simp at h1
  exact hst h1.2
theorem BuildI.kb {w w' : World} {A : Option Addr} {n c : Nat} {bs : List Bool} {tb kb bb k k' : Nat} (h : BuildI w A n c bs tb kb bb k) (z : Kb kb w w') (b : Blk w' kb 3 #[.int .i64 (k' : Int)]) : BuildI w' A n c bs tb kb bb k' :=
  ⟨h.nodes.kb z h.far, h.far, z.blk_ h.bt (h.bt.ne h.bk (by decide)), b, z.blk_ h.bf (h.bf.ne h.bk (by decide))⟩
set_option maxRecDepth 100000 in
set_option maxHeartbeats 2000000 in
theorem build_any (A : Option Addr) (n c tb kb bb : Nat) (bs : List Bool) (hn : n ≤ 2000) : ∀ (t : Tr) (rest : List Bool) (k : Nat) (w : World), bs.drop k = t.enc ++ rest → BuildI w A n c bs tb kb bb k →
    Calls Try.prog 186 #[.pointer (some ⟨tb, 0, none⟩), .pointer (some ⟨kb, 0, none⟩), .pointer (some ⟨bb, 0, none⟩)] w (BuildP w t kb k) := by
  intro t
  have hcall := Try.call186
  induction t with
  | nil =>
    intro rest k w hd h
    obtain ⟨hk, _⟩ := pre_at (x := false) (r := rest) hd
    have hkn : k < n := by have := (List.getElem?_eq_some_iff.1 hk).1; have := h.nodes.len; omega
    obtain ⟨b, g, off, HT, rfl, _, hc⟩ := h.nodes.pick hkn
    obtain rfl : b = false := by have := HT.out; rw [hk] at this; cases this; rfl
    have t0 : w.cell? ⟨tb, 0, none⟩ = some (.slice (some ⟨g, off, none⟩) n c) := h.bt.cell 0
    have k0 : w.cell? ⟨kb, 0, none⟩ = some (.int .i64 (k : Int)) := h.bk.cell 0
    have f0 := h.bk.frozen 0
    have i1 : (0 : Int) ≤ (k : Int) := by omega
    have i2 : (k : Int) < (n : Int) := by omega
    have w1 : IntKind.i64.wrap ((k : Int) + 1) = ((k + 1 : Nat) : Int) := by rw [IntWalk.i64_in _ (by omega)]; omega
    obtain ⟨k2, hk2⟩ : ∃ k2, k + 1 = k2 := ⟨_, rfl⟩
    rw [hk2] at w1
    have hb := h.bk.set_ 0 (.int .i64 (k2 : Int))
    have HR : Hid (BuildP w .nil kb k (.returned (.pointer none)) (w.setCell ⟨kb, 0, none⟩ (.int .i64 (k2 : Int)))) := Lib.hid ⟨none, rfl, rfl, by rw [show k + Tr.nil.nodes = k2 from hk2]; exact hb, (Kb.refl kb w).set_ 0 _⟩
    clear hk hd h HT hk2 hb
    go_enter Try.func186, Try.ntmps186
    go_wp2_with fail
    go_ret
    exact HR.out
  | nd a b iha ihb =>
    intro rest k w hd h
    rw [Tr.enc, List.cons_append, List.append_assoc] at hd
    obtain ⟨hk, hd1⟩ := pre_at hd
    have hd2 := pre_tree hd1
    have hkn : k < n := by have := (List.getElem?_eq_some_iff.1 hk).1; have := h.nodes.len; omega
    have hkm : k + 1 + a.nodes + b.nodes ≤ n := by
      have h1 := congrArg List.length hd
      have h2 := h.nodes.len
      rw [List.length_drop, List.length_cons, List.length_append, List.length_append, enc_len, enc_len] at h1
      omega
    obtain ⟨x, g, off, HT, rfl, _, hc⟩ := h.nodes.pick hkn
    obtain rfl : x = true := by have := HT.out; rw [hk] at this; cases this; rfl
    have t0 : w.cell? ⟨tb, 0, none⟩ = some (.slice (some ⟨g, off, none⟩) n c) := h.bt.cell 0
    have k0 : w.cell? ⟨kb, 0, none⟩ = some (.int .i64 (k : Int)) := h.bk.cell 0
    have f0 := h.bk.frozen 0
    have i1 : (0 : Int) ≤ (k : Int) := by omega
    have i2 : (k : Int) < (n : Int) := by omega
    have w1 : IntKind.i64.wrap ((k : Int) + 1) = ((k + 1 : Nat) : Int) := by rw [IntWalk.i64_in _ (by omega)]; omega
    obtain ⟨k2, hk2⟩ : ∃ k2, k + 1 = k2 := ⟨_, rfl⟩
    rw [hk2] at w1 hd1 hd2 hkm
    obtain ⟨W, hW⟩ : ∃ W, w.setCell ⟨kb, 0, none⟩ (.int .i64 (k2 : Int)) = W := ⟨_, rfl⟩
    have z1 : Kb kb w W := by rw [← hW]; exact (Kb.refl kb w).set_ 0 _
    have h1 : BuildI W (some ⟨g, off, none⟩) n c bs tb kb bb k2 := h.kb z1 (by rw [← hW]; exact h.bk.set_ 0 _)
    have HA := Lib.hid (iha _ k2 W hd1 h1)
    have HW := Lib.hid hW
    have HK2 := Lib.hid hk2
    have b0 : W.cell? ⟨bb, 0, none⟩ = some (.func (.func 186) #[] #[.pointer (some ⟨tb, 0, none⟩), .pointer (some ⟨kb, 0, none⟩), .pointer (some ⟨bb, 0, none⟩)]) := h1.bf.cell 0
    clear hk hd h HT hk2 hd1 hW iha
    go_enter Try.func186, Try.ntmps186
    go_upto_region 3 with fail
    rw [HW.out]
    go_wp2_with fail
    refine HA.out.mono ?_
    rintro e W2 ⟨p, rfl, hp, hb2, z2⟩
    have h2 := h1.kb z2 hb2
    have HB := Lib.hid (ihb _ _ W2 hd2 h2)
    have b2 : W2.cell? ⟨bb, 0, none⟩ = some (.func (.func 186) #[] #[.pointer (some ⟨tb, 0, none⟩), .pointer (some ⟨kb, 0, none⟩), .pointer (some ⟨bb, 0, none⟩)]) := h2.bf.cell 0
    clear HA h1 hb2 ihb
    go_wp2_with fail
    refine HB.out.mono ?_
    rintro e W3 ⟨q, rfl, hq, hb3, z3⟩
    have hp3 := hp.kt (KT.kb z3 h2.bk (by decide))
    have HP := Lib.hid (pair_any a b p q W3 hp3 hq (by omega))
    have HR := Lib.hid (TrAt.new hp3 hq)
    have HBK : Hid (∀ o, Blk (W3.alloc o) kb 3 #[.int .i64 ((k + (Tr.nd a b).nodes : Nat) : Int)]) := Lib.hid (fun o => by
      have h5 : k2 + a.nodes + b.nodes = k + (Tr.nd a b).nodes := by have := HK2.out; rw [Tr.nodes]; omega
      rw [← h5]
      exact hb3.alloc o)
    have z4 := (z1.trans z2).trans z3
    clear HB h2 hb3 hp hp3 hq
    go_wp2_with (go_at_call 175; refine HP.out.mono ?_; rintro e W4 ⟨rfl, rfl⟩)
    go_ret
    exact ⟨_, rfl, HR.out, HBK.out _, z4.alloc _⟩
end Go.Proofs.Ytfheepjfpgiaoaa
