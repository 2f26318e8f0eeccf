/-
  Contracts of impl's (*tree).list and checked.
-/
import Derived.Test.YtfheepjfpgiaoaaTreL
import Derived.Test.YtfheepjfpgiaoaaHelpBo
namespace Go.Proofs.Ytfheepjfpgiaoaa
open Go.RowKit

theorem wpList_make_Own0 {P : Program} {t e : TypeId} {s bytes : Nat} {z : Value} {ops : Array Oper} {rest : List Oper} {o : Oper} {a : Act} {Q : Exit → Act → World → Prop} (hgd : o.guard = none) (l c : Operand) (ho : o.op = Op.makeSlice t l c)
    (E : Elem P t e s bytes z) {w : World} {kl kc : IntKind} {n : Nat} (hl : a.eval l = .int kl 0) (hc : a.eval c = .int kc (n : Int)) (hb : bytes * n ≤ 281474976710656) (hm : n ≤ maxLen) {lo : Nat} (hlo : lo ≤ w.heap.size)
    (hK : ∀ w2, Own w2 lo e s (some ⟨w.heap.size, 0, none⟩) 0 n [] → Below w.heap.size w w2 → w2.heap.size = w.heap.size + 1 → wpList P ops Q rest (a.put o.dst (.slice (some ⟨w.heap.size, 0, none⟩) 0 n)) w2) : wpList P ops Q (o :: rest) a w := by
  refine wpList_plain hgd fun K hK' => ?_
  obtain ⟨i, hi, hz, hsz, hby⟩ := info_parts E.info
  subst hsz
  subst hby
  have h63' : (n : Int) ≤ 9223372036854775807 := by have h := hm; simp [maxLen] at h; omega
  have hb' : (i.bytes : Int) * (n : Int) ≤ 281474976710656 := by
    have h : ((i.bytes * n : Nat) : Int) ≤ 281474976710656 := by omega
    rwa [Int.natCast_mul] at h
  have hr := run_make (P := P) w t e i z E.under hi hz kl kc 0 n (by omega) (by omega) hb' h63'
  simp only [Int.toNat_natCast] at hr
  unfold Oper.wp
  simp [execOp, ho, hl, hc, hr, Result.andThen]
  refine hK' _ _ (hK _ ⟨by simp, .inr ⟨w.heap.size, 0, _, rfl, hlo, heap_alloc_new w _, Nat.zero_le _, hm, by simp [size_madeCells], fun k hk => ?_⟩⟩ ((Below.refl _ _).alloc (Nat.le_refl _) _) (by simp))
  simp at hk
/-- A list of nodes in new memory. -/
def NewBoI (w : World) (xs : List Bool) (e : Ending) (w' : World) : Prop := ∃ A c, e = .returned (.slice A xs.length c) ∧ Own w' w.heap.size 4 1 A xs.length c (bools xs) ∧ Below w.heap.size w w'
set_option maxRecDepth 100000 in
set_option maxHeartbeats 4000000 in
theorem list_any (t : Tr) (p : Option Addr) (w : World) (h : TrAt w t p) (hn : t.nodes ≤ 1000000) : Calls Try.prog 92 #[.pointer p] w (NewBoI w t.enc) := by
  have hmf : ∀ (fn : Fn) (first cap : Array Value) (w : World), (Instr.makeFunc fn first cap).run Try.prog w = .ok (.func fn first cap) w := fun _ _ _ _ => rfl
  have hcall := Try.call177
  have HN := Lib.hid (nodesOf_any t p w h)
  obtain ⟨n, hnn⟩ : ∃ n, t.nodes = n := ⟨_, rfl⟩
  rw [hnn] at HN hn
  have HNN := Lib.hid hnn
  have HP := Lib.hid h
  clear hnn h
  go_enter Try.func92, Try.ntmps92
  go_upto_region 1 with fail
  go_wp2_with (first | (go_at_call 176; refine HN.out.mono ?_; rintro e w' ⟨rfl, rfl⟩) | (at_make; refine wpList_make_Own0 rfl (.const (.int .i64 0)) (.tmp 6) rfl elBool (n := n) (lo := w.heap.size) rfl rfl (by omega) (by unfold maxLen; omega) (Nat.le_refl _) ?_; intro w2 ho2 hb2 hs2))
  obtain ⟨V, hV⟩ : ∃ V, V = (w2.alloc (.cells #[.slice (some ⟨w.heap.size, 0, none⟩) 0 n] 43)).alloc (.cells #[.func (.func 177) #[] #[.pointer (some ⟨w.heap.size + 1, 0, none⟩), .pointer (some ⟨w.heap.size + 1 + 1, 0, none⟩)]] 227) := ⟨_, rfl⟩
  rw [← hV]
  have s2 : (w2.alloc (.cells #[.slice (some ⟨w.heap.size, 0, none⟩) 0 n] 43)).heap.size = w.heap.size + 1 + 1 := by simp [hs2]
  have b0 := Blk.new w2 43 #[.slice (some ⟨w.heap.size, 0, none⟩) 0 n]
  have b1 := Blk.new (w2.alloc (.cells #[.slice (some ⟨w.heap.size, 0, none⟩) 0 n] 43)) 227 #[.func (.func 177) #[] #[.pointer (some ⟨w.heap.size + 1, 0, none⟩), .pointer (some ⟨w.heap.size + 1 + 1, 0, none⟩)]]
  rw [s2] at b1
  rw [hs2] at b0
  have yV : Below w.heap.size w V := by rw [hV]; exact ((hb2.alloc (by omega) _).alloc (by omega) _)
  have hI : ListI V w.heap.size (w.heap.size + 1) (w.heap.size + 1 + 1) (some ⟨w.heap.size, 0, none⟩) 0 n [] := by
    rw [hV]
    exact ⟨b0.alloc _, (ho2.alloc _).alloc _, b1, by omega, by simp [hs2]; omega⟩
  have HY := Lib.hid yV
  have HVV := Lib.hid (visit_any w.heap.size (w.heap.size + 1) (w.heap.size + 1 + 1) t p _ 0 n [] V (HP.out.below yV) hI (by rw [HNN.out]; omega))
  clear hV s2 b0 b1 yV hI ho2 hb2 hs2
  refine HVV.out.mono ?_
  rintro e W3 ⟨u, A3, c3, rfl, h3, _, z3⟩
  have g3 : W3.cell? ⟨w.heap.size + 1, 0, none⟩ = some (.slice A3 (0 + t.nodes) c3) := h3.out.cell 0
  have HO := Lib.hid h3.own
  have HZ := Lib.hid z3
  rw [HNN.out, Nat.zero_add] at g3
  clear h3 z3
  go_wp2_with fail
  go_ret
  have o3 := HO.out
  rw [HNN.out, Nat.zero_add, List.nil_append] at o3
  have e1 : t.enc.length = n := by rw [enc_len]; exact HNN.out
  exact ⟨A3, c3, by rw [e1]; rfl, by rw [e1]; exact o3, HY.out.trans HZ.out⟩
/-- The nodes of a tree, unless there are more than 2000. -/
def chkF (t : Tr) : List Bool × Int := if t.nodes ≤ 2000 then (t.enc, 0) else ([], 5)
theorem checked_any (t : Tr) (p : Option Addr) (w : World) (h : TrAt w t p) (hn : t.nodes ≤ 1000000) : Calls Try.prog 105 #[.pointer p] w (NewBo2 w (chkF t)) := by
  have HN := Lib.hid (nodesOf_any t p w h)
  have HLI := Lib.hid (list_any t p w h hn)
  by_cases hle : t.nodes ≤ 2000
  · have HC : Hid (chkF t = (t.enc, 0)) := Lib.hid (by unfold chkF; rw [if_pos hle])
    obtain ⟨n, hnn⟩ : ∃ n, t.nodes = n := ⟨_, rfl⟩
    rw [hnn] at HN hle
    have i1 : ¬ (n : Int) > 2000 := by omega
    clear hnn hn
    go_enter Try.func105, Try.ntmps105
    go_wp2_with (go_at_call 176; refine HN.out.mono ?_; rintro e w' ⟨rfl, rfl⟩)
    refine HLI.out.mono ?_
    rintro e W2 ⟨A, c, rfl, o, z⟩
    have HO := Lib.hid o
    have HZ := Lib.hid z
    clear o z
    go_wp2_with fail
    rw [HC.out]
    exact bodyPost_ret (v := .tuple #[.slice A t.enc.length c, .int .i64 0]) (by simp [results, Try.results105, go_sem]) rfl ⟨A, c, rfl, HO.out, HZ.out⟩
  · have HC : Hid (chkF t = ([], 5)) := Lib.hid (by unfold chkF; rw [if_neg hle])
    obtain ⟨n, hnn⟩ : ∃ n, t.nodes = n := ⟨_, rfl⟩
    rw [hnn] at HN hle
    have i1 : (n : Int) > 2000 := by omega
    clear hnn hn hle
    go_enter Try.func105, Try.ntmps105
    go_wp2_with (go_at_call 176; refine HN.out.mono ?_; rintro e w' ⟨rfl, rfl⟩)
    rw [HC.out]
    exact bodyPost_ret (v := .tuple #[.slice none 0 0, .int .i64 5]) (by simp [results, Try.results105, go_sem]) rfl ⟨none, 0, rfl, Own.nil, Below.refl _ _⟩
end Go.Proofs.Ytfheepjfpgiaoaa
