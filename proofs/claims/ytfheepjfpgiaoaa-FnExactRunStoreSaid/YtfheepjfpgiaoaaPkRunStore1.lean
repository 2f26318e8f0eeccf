/-
  Contracts of the laws' helpers over []Command: szCommandS, toCommandS, eqCommandS, markCommandS.
-/
import Derived.Test.YtfheepjfpgiaoaaPkRunStore0
import Derived.Test.YtfheepjfpgiaoaaWmW
import Derived.Test.YtfheepjfpgiaoaaHelpBo
import Derived.Test.YtfheepjfpgiaoaaHelpL
import Derived.Test.YtfheepjfpgiaoaaHelpBoS
import Derived.Test.YtfheepjfpgiaoaaHelpQ
import Derived.Test.YtfheepjfpgiaoaaRows
import Derived.Test.YtfheepjfpgiaoaaOpenB
namespace Go.Proofs.Ytfheepjfpgiaoaa
open Go.RowKit

theorem totE_take {ts : List Ce} {t : Ce} {k : Nat} (hT : ts[k]? = some t) : totE (ts.take (k + 1)) = totE (ts.take k) + t.e.length := by
  obtain ⟨h, rfl⟩ := List.getElem?_eq_some_iff.1 hT
  unfold totE; rw [List.take_succ_eq_append_getElem h, List.map_append, List.sum_append]; simp
theorem totE_take_le (ts : List Ce) (k : Nat) : totE (ts.take k) ≤ totE ts := by
  have e : totE ts = totE (ts.take k) + totE (ts.drop k) := by unfold totE; rw [← List.sum_append, ← List.map_append, List.take_append_drop]
  omega

set_option maxHeartbeats 1000000 in
theorem szCmS_p (A : Option Addr) (n c : Nat) (ts : List Ce) (left : Int) (w : World) (hx : SC w A n ts) (hn : n ≤ 9223372036854775807) (hr : ∀ t ∈ ts, t.e.length ≤ 9223372036854775807) (g0 : 0 ≤ left) (g1 : left ≤ 1048576) :
    Calls Try.prog 9 #[.slice A n c, .int .i64 left] w (SzP w left ((n : Int) + (totE ts : Int))) := by
  have HR := Lib.hid hr
  have HL := Lib.hid hx.len
  clear hr
  by_cases h : left < n
  · have h2 : left - n < 0 := by omega
    go_enter Try.func9, Try.ntmps9
    go_wp2
    go_ret
    exact ⟨-1, rfl, by omega, by omega, by omega, Below.refl _ _⟩
  have h2 : ¬ left - n < 0 := by omega
  go_enter Try.func9, Try.ntmps9
  go_wp2
  go_loopw [1, 5] (fun q i wr => ∃ (k : Nat) (z : Int), k ≤ n ∧ i = .int .i64 k ∧ q = .int .i64 z ∧ 0 ≤ z ∧ z ≤ left ∧ Hid (z = left - n - (totE (ts.take k) : Int)) ∧ Below w.heap.size w wr) (fun _ i _ => n - (intOf i).toNat)
  case atStart => exact ⟨0, left - n, Nat.zero_le _, rfl, rfl, by omega, by omega, Lib.hid (by simp [totE]), Below.refl _ _⟩
  case round =>
    obtain ⟨k, z, hk, rfl, rfl, z0, z1, HZ, hz⟩ := hrel
    by_cases hlt : k < n
    · obtain ⟨t, b, off, HT, htm, rfl, hbl, q0, q1, q2, q3, hre⟩ := (hx.below hz).pick hlt
      have hrl := HR.out t htm
      have HTO := Lib.hid (totE_take HT.out)
      have HLE := Lib.hid (totE_take_le ts (k + 1))
      have i1 : (0 : Int) ≤ (k : Int) := by omega
      have i2 : (k : Int) < (n : Int) := by omega
      go_wp2_with fail
      refine (szCommand_any _ _ _ _ _ _ _ _ hrl (by omega) (by omega)).mono ?_
      rintro e w3 ⟨z', rfl, l1, u1, e1, b1⟩
      have E1 := Lib.hid e1
      have hz3 := hz.trans (b1.mono hz.size)
      clear e1 b1 q0 q1 q2 q3 hre
      by_cases hneg : z' < 0
      · go_wp2_with fail
        go_ret
        exact ⟨-1, rfl, by omega, by omega, by omega, hz3⟩
      go_wp2_with fail
      go_roundw
      case rel => exact ⟨k + 1, z', by omega, by go_num, rfl, by omega, by omega, Lib.hid (by have h1 := E1.out (by omega); have h2 := HZ.out; have h3 := HTO.out; omega), hz3⟩
      case measure => (simp [intOf] <;> omega)
    · go_wp2_with fail
      go_ret
      exact ⟨z, rfl, by omega, by omega, fun _ => by have h2 := HZ.out; rw [List.take_of_length_le (by rw [HL.out]; omega)] at h2; omega, hz⟩

def ToCm (w : World) (n : Nat) (cs : List Cmd) (e : Ending) (w' : World) : Prop :=
  ∃ A us, e = .returned (.slice A n n) ∧ OC w' w.heap.size A n n us ∧ cmds us = cs ∧ Below w.heap.size w w'
set_option maxRecDepth 100000 in
set_option maxHeartbeats 4000000 in
theorem toCmS (A : Option Addr) (n c : Nat) (ts : List Ce) (w : World) (hx : SC w A n ts) (hn : n ≤ 1048576) (hr : ∀ t ∈ ts, t.e.length ≤ 1048576) :
    Calls Try.prog 12 #[.slice A n c] w (ToCm w n (cmds ts)) := by
  have HL := Lib.hid hx.len
  have HR := Lib.hid hr
  clear hr
  go_enter Try.func12, Try.ntmps12
  go_wp2_with (at_make; refine wpList_make_Own rfl (.tmp 6) (.tmp 6) rfl elCm (n := n) (lo := w.heap.size) rfl rfl (by omega) (by unfold maxLen; omega) (Nat.le_refl _) ?_; intro w2 ho2 hb2 hs2)
  rw [made_halfC n] at ho2
  clear hs2
  go_loopw [4] (fun i wr => ∃ (k : Nat) (us : List Ce), k ≤ n ∧ i = .int .i64 k ∧ Hid (us.length = k) ∧ Hid (cmds us = (cmds ts).take k) ∧ Own wr w.heap.size 99 4 (some ⟨w.heap.size, 0, none⟩) n n (halfC us (n - k)) ∧
    Hid (∀ u ∈ us, Own wr w.heap.size 118 2 u.A u.e.length u.c (cells2 u.e)) ∧ Below w.heap.size w wr) (fun i _ => n - (intOf i).toNat)
  case atStart => exact ⟨0, [], by omega, rfl, Lib.hid rfl, Lib.hid (by simp [cmds]), ho2, Lib.hid (fun _ h => absurd h (by simp)), hb2⟩
  case round =>
    obtain ⟨k, us, hk, rfl, hul, hnu, ho, hu, hb⟩ := hrel
    by_cases hlt : k < n
    · obtain ⟨t, b, off, HT, htm, rfl, hbl, q0, q1, q2, q3, hre⟩ := (hx.below hb).pick hlt
      have hrl := HR.out t htm
      have i1 : (0 : Int) ≤ (k : Int) := by omega
      have i2 : (k : Int) < (n : Int) := by omega
      go_wp2_with fail
      refine (toCommand_any _ _ _ _ _ _ t.e _ hre hrl).mono ?_
      rintro e w3 ⟨B0, rfl, o0, hb3⟩
      have hwz : w.heap.size < wr.heap.size := ho.blk_lt w.heap.size rfl
      have ho4 := ho.below hb3
      have hll : k * 4 + 3 < (halfC us (n - k)).length := by rw [halfC_len, hul.out]; omega
      obtain ⟨b0, off0, he, hlo, hlt0, hc0, hf0⟩ := ho4.at_ (k := k * 4) (by omega)
      obtain ⟨b1, off1, he1, _, _, hc1, hf1⟩ := ho4.at_ (k := k * 4 + 1) (by omega)
      obtain ⟨b2, off2, he2, _, _, hc2, hf2⟩ := ho4.at_ (k := k * 4 + 2) (by omega)
      obtain ⟨b3, off3, he3, _, _, hc3, hf3⟩ := ho4.at_ (k := k * 4 + 3) (by omega)
      simp only [Option.some.injEq, Addr.mk.injEq, and_true] at he he1 he2 he3
      obtain ⟨rfl, rfl⟩ := he
      obtain ⟨rfl, rfl⟩ := he1
      obtain ⟨rfl, rfl⟩ := he2
      obtain ⟨rfl, rfl⟩ := he3
      obtain ⟨u5, hu5⟩ : ∃ u5 : Ce, u5 = ⟨t.k, t.v, t.l, B0, t.e.length, t.e⟩ := ⟨_, rfl⟩
      have ho5 := (((ho4.set_ (k := k * 4) (by omega) (.int .i64 t.k)).set_ (k := k * 4 + 1) (by rw [List.length_set]; omega) (.int .i64 t.v)).set_ (k := k * 4 + 2) (by rw [List.length_set, List.length_set]; omega) (.int .i64 t.l)).set_ (k := k * 4 + 3) (by rw [List.length_set, List.length_set, List.length_set]; omega) (.slice B0 t.e.length t.e.length)
      have e5 := halfC_next us (n - (k + 1)) ⟨t.k, t.v, t.l, B0, t.e.length, t.e⟩
      rw [hul.out, show n - (k + 1) + 1 = n - k from by omega] at e5
      dsimp only at e5
      rw [e5] at ho5
      simp only [Nat.zero_add] at hc0 hc1 hc2 hc3 hf0 hf1 hf2 hf3 ho5
      have hb5 := ((((hb.trans (hb3.mono hb.size)).setCell (p := ⟨w.heap.size, k * 4, none⟩) (Nat.le_refl _) (.int .i64 t.k)).setCell (p := ⟨w.heap.size, k * 4 + 1, none⟩) (Nat.le_refl _) (.int .i64 t.v)).setCell (p := ⟨w.heap.size, k * 4 + 2, none⟩) (Nat.le_refl _) (.int .i64 t.l)).setCell (p := ⟨w.heap.size, k * 4 + 3, none⟩) (Nat.le_refl _) (.slice B0 t.e.length t.e.length)
      have HU5 : Hid (∀ u ∈ us ++ [(⟨t.k, t.v, t.l, B0, t.e.length, t.e⟩ : Ce)], Own ((((w3.setCell ⟨w.heap.size, k * 4, none⟩ (.int .i64 t.k)).setCell ⟨w.heap.size, k * 4 + 1, none⟩ (.int .i64 t.v)).setCell ⟨w.heap.size, k * 4 + 2, none⟩ (.int .i64 t.l)).setCell ⟨w.heap.size, k * 4 + 3, none⟩ (.slice B0 t.e.length t.e.length)) w.heap.size 118 2 u.A u.e.length u.c (cells2 u.e)) := Lib.hid (by
        intro u hum
        have key : ∀ {X : Option Addr} {m d : Nat} {cs : List Value}, Own w3 w.heap.size 118 2 X m d cs → Own ((((w3.setCell ⟨w.heap.size, k * 4, none⟩ (.int .i64 t.k)).setCell ⟨w.heap.size, k * 4 + 1, none⟩ (.int .i64 t.v)).setCell ⟨w.heap.size, k * 4 + 2, none⟩ (.int .i64 t.l)).setCell ⟨w.heap.size, k * 4 + 3, none⟩ (.slice B0 t.e.length t.e.length)) w.heap.size 118 2 X m d cs := by
          intro X m d cs o
          have hne : blk X ≠ some w.heap.size := fun e => Own.blk_ne o ho4 (by decide) _ e rfl
          exact (((o.far (p := ⟨w.heap.size, k * 4, none⟩) hne _).far (p := ⟨w.heap.size, k * 4 + 1, none⟩) hne _).far (p := ⟨w.heap.size, k * 4 + 2, none⟩) hne _).far (p := ⟨w.heap.size, k * 4 + 3, none⟩) hne _
        rcases List.mem_append.1 hum with h | h
        · exact key ((hu.out u h).below hb3)
        · rw [List.mem_singleton.1 h]
          exact key (o0.mono (by omega)))
      have HNU : Hid (cmds (us ++ [(⟨t.k, t.v, t.l, B0, t.e.length, t.e⟩ : Ce)]) = (cmds ts).take (k + 1)) := Lib.hid (cmds_take_next HT.out hnu.out rfl)
      have HUL : Hid ((us ++ [(⟨t.k, t.v, t.l, B0, t.e.length, t.e⟩ : Ce)]).length = k + 1) := Lib.hid (by rw [List.length_append, hul.out]; rfl)
      clear e5 ho4 ho hu5 q0 q1 q2 q3 hre o0
      go_wp2_with fail
      exact ⟨⟨k + 1, _, by omega, by go_num, HUL, HNU, ho5, HU5, hb5⟩, by simp [intOf]; omega⟩
    · go_wp2
      go_ret
      have e1 : n - k = 0 := by omega
      have hoo := ho
      rw [e1, halfC_end] at hoo
      refine ⟨_, us, rfl, ⟨hoo, fun u h => hu.out u h⟩, ?_, hb⟩
      rw [hnu.out, List.take_of_length_le (by rw [cmds_len, HL.out]; omega)]

/-- Whether two commands are alike. -/
def sameQ (x y : Cmd) : Bool := decide (x = y)
theorem sameQ_B (x y : Ce) : sameCommandB x.k y.k x.v y.v x.l y.l x.e y.e = sameQ x.cmd y.cmd := by
  unfold sameCommandB sameQ same2 Ce.cmd
  rw [Bool.eq_iff_iff]
  simp [and_assoc]
set_option maxRecDepth 100000 in
set_option maxHeartbeats 4000000 in
theorem eqCmS (A B : Option Addr) (n m c d : Nat) (ts us : List Ce) (w : World) (hx : SC w A n ts) (hy : SC w B m us) (hn : n ≤ 9223372036854775807) (hr : ∀ t ∈ ts, t.e.length ≤ 1048576) :
    Calls Try.prog 16 #[.slice A n c, .slice B m d] w fun e w' => e = .returned (.bool (sameC (cmds ts) (cmds us))) ∧ Below w.heap.size w w' := by
  have HR := Lib.hid hr
  clear hr
  by_cases hnm : n = m
  · subst hnm
    go_enter Try.func16, Try.ntmps16
    go_wp2
    go_loopw [5] (fun i wr => ∃ k : Nat, k ≤ n ∧ i = .int .i64 k ∧ Hid ((cmds ts).take k = (cmds us).take k) ∧ Below w.heap.size w wr) (fun i _ => n - (intOf i).toNat)
    case atStart => exact ⟨0, by omega, rfl, Lib.hid rfl, Below.refl _ _⟩
    case round =>
      obtain ⟨k, hk, rfl, he, hb⟩ := hrel
      by_cases hlt : k < n
      · obtain ⟨t, b, off, HT, htm, rfl, hbl, q0, q1, q2, q3, hre⟩ := (hx.below hb).pick hlt
        obtain ⟨u, b', off', HU, hum, rfl, hbl', q0', q1', q2', q3', hre'⟩ := (hy.below hb).pick hlt
        have hrl := HR.out t htm
        have HQ := Lib.hid (sameQ_B t u)
        go_upto_region 6 with fail
        go_cut [26] (fun s26 wx => s26 = .bool (!sameQ t.cmd u.cmd) ∧ Below w.heap.size w wx)
        case first =>
          go_region_held3 (fun w' => w'.cell? ⟨b, off + k * 4, none⟩ = some (.int .i64 t.k) ∧ w'.cell? ⟨b, off + k * 4 + 1, none⟩ = some (.int .i64 t.v) ∧ w'.cell? ⟨b, off + k * 4 + 2, none⟩ = some (.int .i64 t.l) ∧ w'.cell? ⟨b, off + k * 4 + 3, none⟩ = some (.slice t.A t.e.length t.c) ∧
              w'.cell? ⟨b', off' + k * 4, none⟩ = some (.int .i64 u.k) ∧ w'.cell? ⟨b', off' + k * 4 + 1, none⟩ = some (.int .i64 u.v) ∧ w'.cell? ⟨b', off' + k * 4 + 2, none⟩ = some (.int .i64 u.l) ∧ w'.cell? ⟨b', off' + k * 4 + 3, none⟩ = some (.slice u.A u.e.length u.c))
            (first
              | (go_keep; done)
              | (exact ⟨(hb2.cell (p := ⟨b, _, none⟩) hbl).trans q0, (hb2.cell (p := ⟨b, _, none⟩) hbl).trans q1, (hb2.cell (p := ⟨b, _, none⟩) hbl).trans q2, (hb2.cell (p := ⟨b, _, none⟩) hbl).trans q3, (hb2.cell (p := ⟨b', _, none⟩) hbl').trans q0', (hb2.cell (p := ⟨b', _, none⟩) hbl').trans q1', (hb2.cell (p := ⟨b', _, none⟩) hbl').trans q2', (hb2.cell (p := ⟨b', _, none⟩) hbl').trans q3'⟩))
            ((go_at_call 74; refine (eqCommand_any _ _ _ _ _ _ t.e _ _ _ _ _ _ u.e _ (hre.drewN 1) (hre'.drewN 1) hrl).mono ?_; rw [HQ.out]; rintro e w2 ⟨rfl, hb2'⟩; have hb2 : Below wr.heap.size wr w2 := below_undrew hb2'))
          go_wp2_with fail
          go_meet
          exact ⟨rfl, hb.trans (hb2.mono hb.size)⟩
        case rest =>
          obtain ⟨rfl, hb3⟩ := hcut
          clear q0 q1 q2 q3 q0' q1' q2' q3'
          go_wp2_with fail
          · go_ret
            exact ⟨ret_bool (sameC_ne HT.out HU.out (by assumption)), hb3⟩
          · exact ⟨⟨k + 1, by omega, by go_num, Lib.hid (sameC_next HT.out HU.out he.out (by assumption)), hb3⟩, by simp [intOf]; omega⟩
      · go_wp2
        go_ret
        exact ⟨ret_bool (sameC_eq (by omega) hx.len hy.len he.out), hb⟩
  · have hne : ((n : Int) != (m : Int)) = true := by simp; omega
    go_enter Try.func16, Try.ntmps16
    go_wp2
    go_ret
    exact ⟨ret_bool (by have := hx.len; have := hy.len; unfold sameC; symm; rw [decide_eq_false_iff_not]; intro h; have := congrArg List.length h; simp [cmds] at this; omega), Below.refl _ _⟩

theorem MkC.setq {w : World} {lo hi n c b off k j : Nat} {ts : List Ce} (h : MkC w lo hi (some ⟨b, off, none⟩) n c ts) {cur : Array Value} (hb : w.heap[b]? = some (.cells cur 99 (0, 0))) (hj : j < 3) (h1 : lo ≤ b) (h2 : b < hi) (u : Value) : MkC (w.setCell ⟨b, off + k * 4 + j, none⟩ u) lo hi (some ⟨b, off, none⟩) n c ts := by
  have hf : MkF [99] lo hi w (w.setCell ⟨b, off + k * 4 + j, none⟩ u) := (MkF.refl _ _ _ _).setCell hb (by simp) h1 h2 u
  refine ⟨h.1.mkf hf, fun i t hT => ?_, fun t ht => (h.2.2 t ht).mkf hf⟩
  obtain ⟨b', off', e, hc⟩ := h.2.1 i t hT
  cases e
  refine ⟨b, off, rfl, ?_⟩
  rw [World.cell?_setCell_other _ _ _ _ (by first | (simp; done) | (simp; omega))]
  exact hc
set_option maxRecDepth 100000 in
set_option maxHeartbeats 4000000 in
theorem markCmS_m (T : List TypeId) (A : Option Addr) (n c : Nat) (ts : List Ce) (m : Int) (w : World) (lo hi : Nat) (hx : MkC w lo hi A n c ts) (hl : ts.length = n) (hT : 99 ∈ T) (hT2 : 118 ∈ T) (hr : ∀ t ∈ ts, t.e.length ≤ 1048576) (hn : n ≤ 1048576) (ht : totE ts ≤ 1048576) (h0 : 0 ≤ m) (h1 : m ≤ 9223372036800000000) :
    Calls Try.prog 17 #[.slice A n c, .int .i64 m] w (MarkP T w lo hi (n * 3 + totE ts * 2) m) := by
  have HL := Lib.hid hl
  have HT := Lib.hid hT
  have HT2 := Lib.hid hT2
  have HR := Lib.hid hr
  clear hl hT hT2 hr
  go_enter Try.func17, Try.ntmps17
  go_wp2
  go_loopw [1, 5] (fun q i wr => ∃ k : Nat, k ≤ n ∧ i = .int .i64 k ∧ q = .int .i64 (m + ((k * 3 + totE (ts.take k) * 2 : Nat) : Int)) ∧ MkC wr lo hi A n c ts ∧ MkF T lo hi w wr) (fun _ i _ => n - (intOf i).toNat)
  case atStart => exact ⟨0, by omega, rfl, by simp [totE], hx, MkF.refl _ _ _ _⟩
  case round =>
    obtain ⟨k, hk, rfl, rfl, ho, hf⟩ := hrel
    by_cases hlt : k < n
    · have hkl : k < ts.length := by have := HL.out; omega
      obtain ⟨t, hT⟩ : ∃ t, ts[k]? = some t := ⟨ts[k], List.getElem?_eq_getElem hkl⟩
      have hmem : t ∈ ts := List.mem_of_getElem? hT
      have hrl := HR.out t hmem
      have HTO := Lib.hid (totE_take hT)
      have hle := totE_take_le ts (k + 1)
      have hle2 : totE (ts.take k) + t.e.length ≤ totE ts := by have := HTO.out; omega
      obtain ⟨p, hp⟩ : ∃ p, k * 3 + totE (ts.take k) * 2 = p := ⟨_, rfl⟩
      have hpb : p ≤ 6000000 := by omega
      have HP := Lib.hid hp
      obtain ⟨bb, oo, eA, hc3⟩ := ho.2.1 k t hT
      subst eA
      obtain ⟨b, off, cur, v0, e0, hlo, hhi, hg, hc0, hf0⟩ := ho.1.at_ (k := k * 4) (by omega)
      cases e0
      obtain ⟨_, _, _, v1, e1, _, _, _, hc1, hf1⟩ := ho.1.at_ (k := k * 4 + 1) (by omega)
      cases e1
      obtain ⟨_, _, _, v2, e2, _, _, _, hc2, hf2⟩ := ho.1.at_ (k := k * 4 + 2) (by omega)
      cases e2
      rw [← Nat.add_assoc] at hc1 hf1 hc2 hf2
      have m1 := ho.setq (k := k) (j := 0) hg (by omega) hlo hhi (.int .i64 (m + (p : Int)))
      have g1 := heap_setCell_same wr bb (oo + k * 4) cur _ (.int .i64 (m + (p : Int))) hg
      have m2 := m1.setq (k := k) (j := 1) g1 (by omega) hlo hhi (.int .i64 (m + (p : Int) + 1))
      have g2 := heap_setCell_same _ bb (oo + k * 4 + 1) _ _ (.int .i64 (m + (p : Int) + 1)) g1
      have m3 := m2.setq (k := k) (j := 2) g2 (by omega) hlo hhi (.int .i64 (m + (p : Int) + 1 + 1))
      have f1 := (MkF.refl T lo hi wr).setCell (i := oo + k * 4) hg HT.out hlo hhi (.int .i64 (m + (p : Int)))
      have f2 := f1.setCell (i := oo + k * 4 + 1) g1 HT.out hlo hhi (.int .i64 (m + (p : Int) + 1))
      have f3 := f2.setCell (i := oo + k * 4 + 2) g2 HT.out hlo hhi (.int .i64 (m + (p : Int) + 1 + 1))
      have HG := Lib.hid hg
      have M3 := Lib.hid m3
      have F3 := Lib.hid f3
      have i1 : (0 : Int) ≤ (k : Int) := by omega
      have i2 : (k : Int) < (n : Int) := by omega
      have w1 : IntKind.i64.wrap (m + (p : Int) + 1) = m + (p : Int) + 1 := IntWalk.i64_in _ (by omega)
      have w2 : IntKind.i64.wrap (m + (p : Int) + 1 + 1) = m + (p : Int) + 1 + 1 := IntWalk.i64_in _ (by omega)
      have w3 : IntKind.i64.wrap (m + (p : Int) + 1 + 1 + 1) = m + (p : Int) + 1 + 1 + 1 := IntWalk.i64_in _ (by omega)
      clear hg g1 g2 f1 f2 f3 m1 m2 m3 hT hle hp ho
      rw [HP.out]
      go_wp2_with (go_at_call 75; refine (markEx_m [118] _ _ _ _ _ lo hi (M3.out.2.2 t hmem) (by simp) (by omega) (by omega)).mono ?_; rintro e w4 ⟨rfl, hf4⟩; have HF4 := Lib.hid hf4)
      refine ⟨⟨k + 1, by omega, by go_num, ?_, M3.out.mkf HF4.out (by decide) (by have := HL.out; omega), (hf.trans F3.out).trans (HF4.out.mono (by intro e he; rw [List.mem_singleton.1 he]; exact HT2.out))⟩, by simp [intOf]; omega⟩
      have h2 := HTO.out
      have h3 := HP.out
      congr 1
      omega
    · go_wp2
      go_ret
      obtain rfl : k = n := by omega
      refine ⟨ret_int ?_, hf⟩
      rw [List.take_of_length_le (by have := HL.out; omega)]
end Go.Proofs.Ytfheepjfpgiaoaa

/-
  The contracts of RunWhile as the law's walk takes them; the laws' helpers over []bool in one form.
-/
namespace Go.Proofs.Ytfheepjfpgiaoaa
open Go.RowKit

theorem eqBo_b (A B : Option Addr) (n m c d : Nat) (xs ys : List Bool) (w : World) (hx : SB w A n xs) (hy : SB w B m ys) (hn : n ≤ 9223372036854775807) :
    Calls Try.prog 73 #[.slice A n c, .slice B m d] w fun e w' => e = .returned (.bool (sameBo xs ys)) ∧ Below w.heap.size w w' :=
  (eqBo A B n m c d xs ys w hx hy hn).mono fun _ _ ⟨he, q, hq⟩ => ⟨he, hq ▸ below_drewN (Below.refl _ _) q⟩
theorem heldBo_b (A : Option Addr) (n c : Nat) (xs : List Bool) (m : Int) (w : World) (hx : SB w A n xs) (h0 : 0 ≤ m) (h1 : m + n ≤ 9223372036854775807) : Calls Try.prog 77 #[.slice A n c, .int .i64 m] w fun e w' => e = .returned (.int .i64 (heldBF m xs)) ∧ Below w.heap.size w w' := (heldBo A n c xs m w hx h0 h1).mono fun _ _ ⟨he, hq⟩ => ⟨he, hq ▸ Below.refl _ _⟩
end Go.Proofs.Ytfheepjfpgiaoaa

/-
  The contracts of RunStore as the law's walk takes them; the laws' helpers over [][]bool in one form.
-/
namespace Go.Proofs.Ytfheepjfpgiaoaa
open Go.RowKit

theorem OBB.mkf_far {T : List TypeId} {w w' : World} {l hh lo : Nat} {e2 e1 : TypeId} {A : Option Addr} {n c : Nat} {ts : List Bl} (h : OBB w lo e2 e1 A n c ts) (hf : MkF T l hh w w') (hd : ∀ b, lo ≤ b → b < l ∨ hh ≤ b) : OBB w' lo e2 e1 A n c ts :=
  ⟨h.1.mkf_far hf (fun b hb => hd b (h.1.blk_ge b hb)), fun t ht => (h.2.1 t ht).mkf_far hf (fun b hb => hd b ((h.2.1 t ht).blk_ge b hb)), h.2.2⟩
theorem OBB.mkf_below {T : List TypeId} {w0 w w' : World} {l hh lo : Nat} {e2 e1 : TypeId} {A : Option Addr} {n c : Nat} {ts : List Bl} (h0 : OBB w0 lo e2 e1 A n c ts) (hl : w0.heap.size ≤ l) (h : OBB w lo e2 e1 A n c ts) (hf : MkF T l hh w w') : OBB w' lo e2 e1 A n c ts :=
  ⟨h.1.mkf_far hf (fun b hb => .inl (by have := h0.1.blk_lt b hb; omega)), fun t ht => (h.2.1 t ht).mkf_far hf (fun b hb => .inl (by have := (h0.2.1 t ht).blk_lt b hb; omega)), h.2.2⟩
theorem OBB.touch_below {w0 w w' : World} {l hh lo : Nat} {e2 e1 : TypeId} {A : Option Addr} {n c : Nat} {ts : List Bl} (h0 : OBB w0 lo e2 e1 A n c ts) (hl : w0.heap.size ≤ l) (h : OBB w lo e2 e1 A n c ts) (ht : Tch l hh w w') : OBB w' lo e2 e1 A n c ts :=
  ⟨h.1.touch ht (fun b hb => .inl (by have := h0.1.blk_lt b hb; omega)), fun t htm => (h.2.1 t htm).touch ht (fun b hb => .inl (by have := (h0.2.1 t htm).blk_lt b hb; omega)), h.2.2⟩
theorem szBB_p (A : Option Addr) (n c : Nat) (ts : List Bl) (left : Int) (w : World) (hx : SBB w A n ts) (hn : n ≤ 9223372036854775807) (hns : ∀ t ∈ ts, t.xs.length ≤ 9223372036854775807) (h0 : 0 ≤ left) (h1 : left ≤ 1048576) :
    Calls Try.prog 10 #[.slice A n c, .int .i64 left] w (SzP w left ((n + totalB ts : Nat) : Int)) :=
  (szBB A n c ts left w hx hn hns h0 h1).mono fun _e _w' ⟨he, hw⟩ => by
    have h2 := szRows_tot (n :: ts.map (fun t => t.xs.length)) left h0
    have h3 : (n :: ts.map (fun t => t.xs.length)).sum = n + totalB ts := by simp [totalB]
    rw [h3] at h2
    exact ⟨_, he, h2.1, h2.2.1, h2.2.2, hw ▸ Below.refl _ _⟩
theorem rowB_total {ts : List Bl} {t : Bl} (h : t ∈ ts) : t.xs.length ≤ totalB ts := by
  unfold totalB
  obtain ⟨a, b, rfl⟩ := List.append_of_mem h
  simp; omega
theorem totalB_same {ts us : List Bl} (h : numsB us = numsB ts) : totalB us = totalB ts := by rw [totalB_of_nums, totalB_of_nums, h]
theorem rowsB_le {ts us : List Bl} (h : numsB us = numsB ts) {b : Nat} (hb : ∀ t ∈ ts, t.xs.length ≤ b) : ∀ u ∈ us, u.xs.length ≤ b := by
  intro u hu
  have h1 : u.xs ∈ numsB us := List.mem_map.2 ⟨u, hu, rfl⟩
  rw [h] at h1
  obtain ⟨t, ht, e⟩ := List.mem_map.1 h1
  rw [← e]; exact hb t ht
theorem sameBB_self (xs : List (List Bool)) : sameBB xs xs = true := by simp [sameBB]
theorem eqBB_b (A B : Option Addr) (n m c d : Nat) (ts us : List Bl) (w : World) (hx : SBB w A n ts) (hy : SBB w B m us) (hn : n ≤ 9223372036854775807) (hns : ∀ t ∈ ts, t.xs.length ≤ 9223372036854775807) : Calls Try.prog 15 #[.slice A n c, .slice B m d] w fun e w' => e = .returned (.bool (sameBB (numsB ts) (numsB us))) ∧ Below w.heap.size w w' := (eqBB A B n m c d ts us w hx hy hn hns).mono fun _ _ ⟨he, q, hq⟩ => ⟨he, hq ▸ below_drewN (Below.refl _ _) q⟩
theorem sum_le_of : ∀ {l : List Nat} {b : Nat}, (∀ x ∈ l, x ≤ b) → l.sum ≤ l.length * b
  | [], _, _ => by simp
  | x :: l, b, h => by
    have h1 := h x (by simp)
    have h2 := sum_le_of (l := l) (b := b) (fun y hy => h y (by simp [hy]))
    rw [List.sum_cons, List.length_cons, Nat.add_mul, Nat.one_mul]; omega
theorem runStF_len (cs : List Cmd) (xs : List (List Bool)) (b : Int) : (runStF cs xs b).1.length ≤ 1048576 ∧ ((runStF cs xs b).1.map List.length).sum ≤ 1048576 := by
  unfold runStF
  split
  · rename_i h
    rw [Bool.and_eq_true] at h
    split
    · have hk := h.1
      unfold okStore at hk
      rw [Bool.and_eq_true, decide_eq_true_iff, List.all_eq_true] at hk
      have hsn : ∀ t ∈ xs.map trOf, t.nodes ≤ 2000 := by
        intro t ht
        obtain ⟨x, hx, rfl⟩ := List.mem_map.1 ht
        exact (enc_trOf (hk.2 x hx)).2
      cases hg : goW b.toNat 0 (pgOf cs) [] (xs.map trOf) with
      | none => simp
      | some r =>
        obtain ⟨s, k, d⟩ := r
        have h2 := goW_ok _ _ _ _ _ hsn s k d hg
        have h3 : s.length = 6 := by rw [h2.2, List.length_map, hk.1]
        dsimp only
        refine ⟨by rw [List.length_map, h3]; decide, ?_⟩
        have h4 := sum_le_of (l := (s.map Tr.enc).map List.length) (b := 2000) (fun x hx => by
          obtain ⟨y, hy, rfl⟩ := List.mem_map.1 hx
          obtain ⟨t, ht, rfl⟩ := List.mem_map.1 hy
          rw [enc_len]; exact h2.1 t ht)
        rw [List.length_map, List.length_map, h3] at h4
        omega
    · simp
  · simp
theorem rsS_any (A : Option Addr) (n c : Nat) (ts : List Ce) (B : Option Addr) (m d : Nat) (us : List Bl) (b : Int) (w : World) {lo : Nat} (hx : SC w A n ts) (hy : OBB w lo 43 4 B m d us) (hn : n ≤ 1048576) (hr : ∀ t ∈ ts, t.e.length ≤ 1048576) (hm : m ≤ 1048576) (hs : ∀ u ∈ us, u.xs.length ≤ 1048576) :
    Calls Try.prog 11 #[.slice A n c, .slice B m d, .int .i64 b] w (NewBB4 w (runStF (cmds ts) (numsB us) b)) := runStoreS_any A n c ts lo B m d us b w hx hn hr hy hm hs
theorem rsI_any (A : Option Addr) (n c : Nat) (ts : List Ce) (B : Option Addr) (m d : Nat) (us : List Bl) (b : Int) (w : World) {lo : Nat} (hx : SC w A n ts) (hy : OBB w lo 43 4 B m d us) (hn : n ≤ 1048576) (hr : ∀ t ∈ ts, t.e.length ≤ 1048576) (hm : m ≤ 1048576) (hs : ∀ u ∈ us, u.xs.length ≤ 1048576) (hnc : n ≤ c) :
    Calls Try.prog 14 #[.slice A n c, .slice B m d, .int .i64 b] w (NewBB4 w (runStF (cmds ts) (numsB us) b)) := runStoreI_any A n c ts B m d us b w hx hn hnc hr hy.sii hm hs
end Go.Proofs.Ytfheepjfpgiaoaa

/-
  The walk of the law FnExactRunStore: it returns true, and nothing that was there before has turned.
-/
namespace Go.Proofs.Ytfheepjfpgiaoaa
open Go.RowKit

set_option maxRecDepth 100000 in
set_option maxHeartbeats 16000000 in
theorem lawRunStore (A0 : Option Addr) (n0 c0 : Nat) (ts0 : List Ce) (A1 : Option Addr) (n1 c1 : Nat) (ts1 : List Bl) (b2 : Int) (w : World) (hx0 : SC w A0 n0 ts0) (hx1 : SBB w A1 n1 ts1)  (hb0 : n0 ≤ 9223372036854775807) (hbr0 : ∀ t ∈ ts0, t.e.length ≤ 9223372036854775807) (hb1 : n1 ≤ 9223372036854775807) (hbr1 : ∀ t ∈ ts1, t.xs.length ≤ 9223372036854775807)  :
    Calls Try.prog 3 #[.slice A0 n0 c0, .slice A1 n1 c1, .int .i64 b2] w fun e w' => e = .returned (.bool true) ∧ Below w.heap.size w w' := by
  have HBR0 := Lib.hid hbr0
  clear hbr0
  have HBR1 := Lib.hid hbr1
  clear hbr1
  go_enter Try.func3, Try.ntmps3
  go_wp2_with fail
  refine (szCmS_p _ _ _ ts0 _ _ hx0 hb0 HBR0.out (by omega) (by omega)).mono ?_
  rintro e W1 ⟨v1, rfl, va1, vb1, vc1, z1⟩
  have VC1 := Lib.hid vc1
  clear vc1
  by_cases hneg1 : v1 < 0
  · go_wp2_with fail
    go_ret
    exact ⟨rfl, z1⟩
  go_wp2_with fail
  refine (szBB_p _ _ _ ts1 _ _ (hx1.below z1) hb1 HBR1.out (by omega) (by omega)).mono ?_
  rintro e W2 ⟨v2, rfl, va2, vb2, vc2, z2⟩
  have VC2 := Lib.hid vc2
  clear vc2
  have yw_W2 : Below w.heap.size w W2 := z1.trans (z2.mono z1.size)
  by_cases hneg2 : v2 < 0
  · go_wp2_with fail
    go_ret
    exact ⟨rfl, yw_W2⟩
  have hsm : n0 ≤ 1048576 ∧ totE ts0 ≤ 1048576 ∧ n1 ≤ 1048576 ∧ totalB ts1 ≤ 1048576 := by
    have t1 := VC1.out (by omega)
    have t2 := VC2.out (by omega)
    omega
  obtain ⟨p0, pt0, p1, pt1⟩ := hsm
  have HR0 : Hid (∀ t ∈ ts0, t.e.length ≤ 1048576) := Lib.hid (fun t ht => by have := totE_row ht; omega)
  clear HBR0
  have HR1 : Hid (∀ t ∈ ts1, t.xs.length ≤ 1048576) := Lib.hid (fun t ht => by have := rowB_total ht; omega)
  clear HBR1
  clear VC1
  clear VC2
  go_wp2_with fail
  refine (toCmS _ _ _ ts0 _ (hx0.below yw_W2) p0 HR0.out).mono ?_
  rintro e W3 ⟨B3, us3, rfl, o3, hn3, z3⟩
  have HN3 := Lib.hid hn3; clear hn3
  go_wp2_with fail
  have yw_W3 : Below w.heap.size w W3 := yw_W2.trans (z3.mono yw_W2.size)
  refine (toBB _ _ _ ts1 _ (hx1.below yw_W3) p1 HR1.out).mono ?_
  rintro e W4 ⟨B4, us4, rfl, o4, hn4, hu4, z4⟩
  have HN4 := Lib.hid hn4; have HU4 := Lib.hid hu4; clear hn4 hu4
  go_wp2_with fail
  refine (rsS_any _ _ _ us3 _ _ _ us4 _ _ (o3.below z4).sc o4 p0 (cmds_rows HN3.out HR0.out) p1 (rowsB_le HN4.out HR1.out)).mono ?_
  rw [HN3.out, HN4.out]
  obtain ⟨res, hres⟩ : ∃ res, res = runStF (cmds ts0) (numsB ts1) b2 := ⟨_, rfl⟩
  rw [← hres]
  have HRES := Lib.hid hres
  clear hres
  rintro e W5 ⟨A5r, c5r, us5r, rfl, oR5, hn5r, z5⟩
  have HN5r := Lib.hid hn5r
  clear hn5r
  have hlen : res.1.length ≤ 1048576 ∧ (res.1.map List.length).sum ≤ 1048576 := by rw [HRES.out]; exact (runStF_len (cmds ts0) (numsB ts1) b2)
  obtain ⟨lx0, lx1⟩ := hlen
  go_wp2_with fail
  have yw_W4 : Below w.heap.size w W4 := yw_W3.trans (z4.mono yw_W3.size)
  have yw_W5 : Below w.heap.size w W5 := yw_W4.trans (z5.mono yw_W4.size)
  refine (toCmS _ _ _ ts0 _ (hx0.below yw_W5) p0 HR0.out).mono ?_
  rintro e W6 ⟨B6, us6, rfl, o6, hn6, z6⟩
  have HN6 := Lib.hid hn6; clear hn6
  go_wp2_with fail
  have yw_W6 : Below w.heap.size w W6 := yw_W5.trans (z6.mono yw_W5.size)
  refine (toBB _ _ _ ts1 _ (hx1.below yw_W6) p1 HR1.out).mono ?_
  rintro e W7 ⟨B7, us7, rfl, o7, hn7, hu7, z7⟩
  have HN7 := Lib.hid hn7; have HU7 := Lib.hid hu7; clear hn7 hu7
  go_wp2_with fail
  refine (rsI_any _ _ _ us6 _ _ _ us7 _ _ (o6.below z7).sc o7 p0 (cmds_rows HN6.out HR0.out) p1 (rowsB_le HN7.out HR1.out) (Nat.le_refl _)).mono ?_
  rw [HN6.out, HN7.out, ← HRES.out]
  rintro e W8 ⟨A8r, c8r, us8r, rfl, oR8, hn8r, z8⟩
  have HN8r := Lib.hid hn8r
  clear hn8r
  have yW5_W7 : Below W5.heap.size W5 W7 := z6.trans (z7.mono z6.size)
  have yW5_W8 : Below W5.heap.size W5 W8 := yW5_W7.trans (z8.mono yW5_W7.size)
  go_wp2_with fail
  refine (eqBB_b _ _ _ _ _ _ us8r us5r _ oR8.sii (oR5.below yW5_W8).sii (by omega) (fun t ht => by have := rowB_total ht; have := totalB_of HN8r.out lx1; omega)).mono ?_
  rintro e W9 ⟨rfl, z9⟩
  rw [HN8r.out, HN5r.out, sameBB_self]
  have yw_W7 : Below w.heap.size w W7 := yw_W6.trans (z7.mono yw_W6.size)
  have yw_W8 : Below w.heap.size w W8 := yw_W7.trans (z8.mono yw_W7.size)
  have yw_W9 : Below w.heap.size w W9 := yw_W8.trans (z9.mono yw_W8.size)
  go_wp2_with fail
  refine (toCmS _ _ _ ts0 _ (hx0.below yw_W9) p0 HR0.out).mono ?_
  rintro e W10 ⟨B10, us10, rfl, o10, hn10, z10⟩
  have HN10 := Lib.hid hn10; clear hn10
  have yW6_W8 : Below W6.heap.size W6 W8 := z7.trans (z8.mono z7.size)
  have yW6_W9 : Below W6.heap.size W6 W9 := yW6_W8.trans (z9.mono yW6_W8.size)
  have yW6_W10 : Below W6.heap.size W6 W10 := yW6_W9.trans (z10.mono yW6_W9.size)
  go_wp2_with fail
  refine (eqCmS _ _ _ _ _ _ us6 us10 _ (o6.below yW6_W10).sc o10.sc (by omega) (cmds_rows HN6.out HR0.out)).mono ?_
  rintro e W11 ⟨rfl, z11⟩
  rw [HN6.out, HN10.out, sameC_self]
  have yw_W10 : Below w.heap.size w W10 := yw_W9.trans (z10.mono yw_W9.size)
  have yw_W11 : Below w.heap.size w W11 := yw_W10.trans (z11.mono yw_W10.size)
  go_wp2_with fail
  refine (toBB _ _ _ ts1 _ (hx1.below yw_W11) p1 HR1.out).mono ?_
  rintro e W12 ⟨B12, us12, rfl, o12, hn12, hu12, z12⟩
  have HN12 := Lib.hid hn12; have HU12 := Lib.hid hu12; clear hn12 hu12
  have yW7_W9 : Below W7.heap.size W7 W9 := z8.trans (z9.mono z8.size)
  have yW7_W10 : Below W7.heap.size W7 W10 := yW7_W9.trans (z10.mono yW7_W9.size)
  have yW7_W11 : Below W7.heap.size W7 W11 := yW7_W10.trans (z11.mono yW7_W10.size)
  have yW7_W12 : Below W7.heap.size W7 W12 := yW7_W11.trans (z12.mono yW7_W11.size)
  go_wp2_with fail
  refine (eqBB_b _ _ _ _ _ _ us7 us12 _ (o7.below yW7_W12).sii o12.sii (by omega) (fun t ht => by have := rowsB_le HN7.out HR1.out t ht; omega)).mono ?_
  rintro e W13 ⟨rfl, z13⟩
  rw [HN7.out, HN12.out, sameBB_self]
  have TI_CM : Hid (99 ∈ [99, 118, 4]) := Lib.hid (by decide)
  have TI_EX : Hid (118 ∈ [99, 118, 4]) := Lib.hid (by decide)
  have TI_BO : Hid (4 ∈ [99, 118, 4]) := Lib.hid (by decide)
  have TN_BB : Hid (43 ∉ [99, 118, 4]) := Lib.hid (by decide)
  have hs_W2 : W1.heap.size ≤ W2.heap.size := z2.size
  have hs_W3 : W2.heap.size ≤ W3.heap.size := z3.size
  have hs_W4 : W3.heap.size ≤ W4.heap.size := z4.size
  have hs_W5 : W4.heap.size ≤ W5.heap.size := z5.size
  have hs_W6 : W5.heap.size ≤ W6.heap.size := z6.size
  have hs_W7 : W6.heap.size ≤ W7.heap.size := z7.size
  have hs_W8 : W7.heap.size ≤ W8.heap.size := z8.size
  have hs_W9 : W8.heap.size ≤ W9.heap.size := z9.size
  have hs_W10 : W9.heap.size ≤ W10.heap.size := z10.size
  have hs_W11 : W10.heap.size ≤ W11.heap.size := z11.size
  have hs_W12 : W11.heap.size ≤ W12.heap.size := z12.size
  have hs_W13 : W12.heap.size ≤ W13.heap.size := z13.size
  have yW6_W11 : Below W6.heap.size W6 W11 := yW6_W10.trans (z11.mono yW6_W10.size)
  have yW6_W12 : Below W6.heap.size W6 W12 := yW6_W11.trans (z12.mono yW6_W11.size)
  have yW6_W13 : Below W6.heap.size W6 W13 := yW6_W12.trans (z13.mono yW6_W12.size)
  have lu0 : us6.length = n0 := o6.sc.len
  have m0 : MkC W13 W5.heap.size W7.heap.size B6 n0 n0 us6 := ((o6.mono (by omega)).mk (by omega)).below yW6_W13 (by omega)
  have pu0 : totE us6 ≤ 1048576 := by rw [totE_same HN6.out]; exact pt0
  have yW7_W13 : Below W7.heap.size W7 W13 := yW7_W12.trans (z13.mono yW7_W12.size)
  have m1 : MkBB W13 W5.heap.size W7.heap.size 43 4 B7 n1 n1 us7 := by
    have h1 := (o7.below yW7_W13)
    exact ⟨h1.1.mono (by omega), fun t ht => ((h1.2.1 t ht).mono (by omega)).mk (fun b hb => by have := (o7.2.1 t ht).blk_lt b hb; omega)⟩
  have pu1 : totalB us7 ≤ 1048576 := by rw [totalB_same HN7.out]; exact pt1
  have yw_W12 : Below w.heap.size w W12 := yw_W11.trans (z12.mono yw_W11.size)
  have yw_W13 : Below w.heap.size w W13 := yw_W12.trans (z13.mono yw_W12.size)
  have yW8_W10 : Below W8.heap.size W8 W10 := z9.trans (z10.mono z9.size)
  have yW8_W11 : Below W8.heap.size W8 W11 := yW8_W10.trans (z11.mono yW8_W10.size)
  have yW8_W12 : Below W8.heap.size W8 W12 := yW8_W11.trans (z12.mono yW8_W11.size)
  have yW8_W13 : Below W8.heap.size W8 W13 := yW8_W12.trans (z13.mono yW8_W12.size)
  have yW5_W9 : Below W5.heap.size W5 W9 := yW5_W8.trans (z9.mono yW5_W8.size)
  have yW5_W10 : Below W5.heap.size W5 W10 := yW5_W9.trans (z10.mono yW5_W9.size)
  have yW5_W11 : Below W5.heap.size W5 W11 := yW5_W10.trans (z11.mono yW5_W10.size)
  have yW5_W12 : Below W5.heap.size W5 W12 := yW5_W11.trans (z12.mono yW5_W11.size)
  have yW5_W13 : Below W5.heap.size W5 W13 := yW5_W12.trans (z13.mono yW5_W12.size)
  have io0 := (oR8.below yW8_W13)
  have so0 := (oR5.below yW5_W13)
  go_wp2_with fail
  refine (markCmS_m [99, 118, 4] _ _ _ us6 _ _ W5.heap.size W7.heap.size m0 lu0 TI_CM.out TI_EX.out (cmds_rows HN6.out HR0.out) p0 pu0 (by omega) (by omega)).mono ?_
  rintro e W14 ⟨rfl, f14⟩
  go_wp2_with fail
  refine (markBB_m [99, 118, 4] _ _ _ us7 _ _ W5.heap.size W7.heap.size (m1.mkf f14 TN_BB.out) TI_BO.out TN_BB.out (by omega) (by omega) (by omega)).mono ?_
  rintro e W15 ⟨rfl, f15⟩
  have ff15 := f14.trans f15
  have io0 := io0.mkf_far ff15 (fun b hb => .inr hb)
  have so0 := OBB.mkf_below oR5 (Nat.le_refl _) so0 ff15
  have yM : Below w.heap.size w W15 := yw_W13.trans (ff15.below yw_W5.size yw_W13.size)
  have hs_W15 : W13.heap.size ≤ W15.heap.size := ff15.size
  clear ff15
  have gneg : ¬ ((1 : Int) + ((n0 * 3 + totE us6 * 2 : Nat) : Int) + (totalB us7 : Int) < 0) := by omega
  go_wp2_with fail
  refine (eqBB_b _ _ _ _ _ _ us8r us5r _ io0.sii so0.sii (by omega) (fun t ht => by have := rowB_total ht; have := totalB_of HN8r.out lx1; omega)).mono ?_
  rintro e W16 ⟨rfl, z16⟩
  rw [HN8r.out, HN5r.out, sameBB_self]
  clear gneg
  have hs_W16 : W15.heap.size ≤ W16.heap.size := z16.size
  go_wp2_with fail
  refine (markBB_c _ _ _ us8r _ _ W7.heap.size W8.heap.size (io0.below z16) (fun t ht b hb => (oR8.2.1 t ht).blk_lt b hb) (by decide) (by omega) (totalB_of HN8r.out lx1) (by omega) (by omega)).mono ?_
  rintro e W17 ⟨rfl, eR, t17⟩
  have so0 := OBB.touch_below oR5 (by omega) (so0.below z16) t17
  have yw_W16 : Below w.heap.size w W16 := yM.trans (z16.mono yM.size)
  have hlow : w.heap.size ≤ W7.heap.size := by have := yw_W5.size; omega
  have yN : Below w.heap.size w W17 := yw_W16.trans (t17.below hlow yw_W16.size)
  have hs_W17 : W16.heap.size ≤ W17.heap.size := t17.size
  clear t17
  go_wp2_with fail
  refine (heldBB_c _ _ _ _ _ _ eR (by omega) (totalB_of HN8r.out lx1) (by omega) (by omega)).mono ?_
  rintro e W18 ⟨rfl, z18⟩
  have gneg : ¬ ((1 : Int) + (totalB us8r : Int) < 0) := by omega
  have yw_W18 : Below w.heap.size w W18 := yN.trans (z18.mono yN.size)
  go_wp2_with fail
  refine (toCmS _ _ _ ts0 _ (hx0.below yw_W18) p0 HR0.out).mono ?_
  rintro e W19 ⟨B19, us19, rfl, o19, hn19, z19⟩
  have HN19 := Lib.hid hn19; clear hn19
  go_wp2_with fail
  have yw_W19 : Below w.heap.size w W19 := yw_W18.trans (z19.mono yw_W18.size)
  refine (toBB _ _ _ ts1 _ (hx1.below yw_W19) p1 HR1.out).mono ?_
  rintro e W20 ⟨B20, us20, rfl, o20, hn20, hu20, z20⟩
  have HN20 := Lib.hid hn20; have HU20 := Lib.hid hu20; clear hn20 hu20
  go_wp2_with fail
  refine (rsI_any _ _ _ us19 _ _ _ us20 _ _ (o19.below z20).sc o20 p0 (cmds_rows HN19.out HR0.out) p1 (rowsB_le HN20.out HR1.out) (Nat.le_refl _)).mono ?_
  rw [HN19.out, HN20.out]
  rw [← HRES.out]
  rintro e W21 ⟨A21r, c21r, us21r, rfl, oR21, hn21r, z21⟩
  have HN21r := Lib.hid hn21r
  clear hn21r
  have yW17_W19 : Below W17.heap.size W17 W19 := z18.trans (z19.mono z18.size)
  have yW17_W20 : Below W17.heap.size W17 W20 := yW17_W19.trans (z20.mono yW17_W19.size)
  have yW17_W21 : Below W17.heap.size W17 W21 := yW17_W20.trans (z21.mono yW17_W20.size)
  go_wp2_with fail
  refine (eqBB_b _ _ _ _ _ _ us21r us5r _ oR21.sii (so0.below yW17_W21).sii (by omega) (fun t ht => by have := rowB_total ht; have := totalB_of HN21r.out lx1; omega)).mono ?_
  rintro e W22 ⟨rfl, z22⟩
  rw [HN21r.out, HN5r.out, sameBB_self]
  go_wp2_with fail
  have yW17_W22 : Below W17.heap.size W17 W22 := yW17_W21.trans (z22.mono yW17_W21.size)
  refine (heldBB_c _ _ _ _ _ _ (eR.below yW17_W22) (by omega) (totalB_of HN8r.out lx1) (by omega) (by omega)).mono ?_
  rintro e W23 ⟨rfl, z23⟩
  have yw_W20 : Below w.heap.size w W20 := yw_W19.trans (z20.mono yw_W19.size)
  have yw_W21 : Below w.heap.size w W21 := yw_W20.trans (z21.mono yw_W20.size)
  have yw_W22 : Below w.heap.size w W22 := yw_W21.trans (z22.mono yw_W21.size)
  have yw_W23 : Below w.heap.size w W23 := yw_W22.trans (z23.mono yw_W22.size)
  go_wp2_with fail
  go_ret
  exact ⟨rfl, yw_W23⟩
end Go.Proofs.Ytfheepjfpgiaoaa

/-
  For every input, FnExactRunStore returns true, and each argument reads afterwards as it read before. No conditions.
-/
namespace Go.Proofs.Ytfheepjfpgiaoaa.lawRunStoreRow
open Go.ChangeShapes Go.WideShapes Go.ChangeAt Go.RowKit Go.Joins Go.Proofs.Ytfheepjfpgiaoaa

theorem own : ownKnob Try.prog.godebug = none := by kernel_rfl
theorem laidOut : laidOutB Try.prog = true := by kernel_rfl
theorem readable : ∀ t ∈ Try.f3.params.toList, Try.prog.readableRec t = true ∧ t < Try.prog.types.size := by
  have h : (Try.f3.params.toList.all fun t => Try.prog.readableRec t && decide (t < Try.prog.types.size)) = true := by kernel_rfl
  intro t ht
  have := List.all_eq_true.1 h t ht
  simpa using this

set_option maxRecDepth 100000 in
theorem lifted (os : Os) (started : os.Started) (H : Type) (enc : TypeId × Value → H) :
    ReturnsInHanded {} Try.checked os 3 .any (Rows.fnExactRunStoreSpec.pre6 enc Try.prog Try.f3 Rows.fnExactRunStoreRow.domain false) (Rows.fnExactRunStoreSpec.post enc Try.prog Try.f3 false true false false) := by
  refine returnsInHanded_of_change (C := Try.checked) own started (by kernel_rfl) Try.func3
    (ChangeSpec.witness6 (enc := enc) (C := Try.checked) false ⟨#[], #[.slice none 0 0, .slice none 0 0, .int .i64 0], []⟩ 8 (by kernel_rfl) (by kernel_rfl) (by kernel_rfl) (by kernel_rfl)) ?_
  intro W base args ds gs before hval0 hW hcnd _
  have hval : ∀ (j : Nat) t v, Try.f3.params[j]? = some t → args[j]? = some v → Value.okWide Try.prog W .any base t v := hval0
  have hW' := hW
  obtain ⟨p, q, hA0, hV, hbef, hfz, hnd⟩ := hW
  have hA : DataW.TrodAll enc Try.prog W 0 (fun _ => true) true Try.f3.params.toList args.toList ds p := hA0
  rw [Try.params3] at hA hval
  obtain ⟨v0, vs0, d0, ds0, p0, q0, hargs, rfl, rfl, h0, r0⟩ := trodAll_cons hA
  obtain ⟨v1, vs1, d1, ds1, p1, q1, rfl, rfl, rfl, h1, r1⟩ := trodAll_cons r0
  obtain ⟨v2, vs2, d2, ds2, p2, q2, rfl, rfl, rfl, h2, r2⟩ := trodAll_cons r1
  obtain ⟨rfl, rfl, rfl⟩ := trodAll_nil r2
  obtain rfl : args = #[v0, v1, v2] := by cases args; simp_all
  obtain ⟨rfl, rfl⟩ := trodVars_none hV
  obtain ⟨Aa0, na0, ka0, rfl⟩ := okWide_slice Try.underlying22 (hval 0 22 v0 rfl rfl)
  obtain ⟨fuel0, hf0⟩ := h0
  obtain ⟨Aa0', na0', ka0', xa0, ee0, Sa0, la0, ma0, hra0⟩ := sc_of_trod (v := .slice Aa0 na0 ka0) Try.underlying22 Try.underlying91 rfl rfl rfl rfl rfl rfl rfl rfl Try.underlying2 (by kernel_rfl) (by kernel_rfl) (by kernel_rfl) Try.underlying89 Try.underlying282 rfl rfl rfl rfl (by kernel_rfl) (by simpa [Value.cells] using hf0)
  simp only [Value.slice.injEq] at ee0
  obtain ⟨rfl, rfl, rfl⟩ := ee0
  obtain ⟨Aa1, na1, ka1, rfl⟩ := okWide_slice Try.underlying23 (hval 1 23 v1 rfl rfl)
  obtain ⟨fuel1, hf1⟩ := h1
  obtain ⟨Aa1', na1', ka1', xa1, ee1, Sa1, la1, ma1, hra1⟩ := bb_of_trod (v := .slice Aa1 na1 ka1) Try.underlying23 Try.underlying43 Try.underlying4 (by kernel_rfl) (by kernel_rfl) (by simpa [Value.cells] using hf1)
  simp only [Value.slice.injEq] at ee1
  obtain ⟨rfl, rfl, rfl⟩ := ee1
  obtain ⟨b2, rfl⟩ := okWide_int Try.underlying2 (hval 2 2 v2 rfl rfl)
  refine (lawRunStore Aa0 na0 ka0 xa0 Aa1 na1 ka1 xa1 b2 W Sa0 Sa1 (by omega) hra0 (by omega) hra1).mono fun e W' ⟨he, hb⟩ => ?_
  subst he
  exact ⟨_, rfl, law_post laidOut readable rfl (by kernel_rfl) Try.underlying4 rfl rfl rfl hW' hb⟩

set_option maxHeartbeats 8000000 in
theorem closed : joinedFacts Try.pinned.checked.prog 3 Try.f3 Rows.fnExactRunStoreSpec Rows.fnExactRunStoreRow = true := by
  unfold joinedFacts
  simp only [Bool.and_eq_true]
  repeat' (refine And.intro ?_ ?_)
  all_goals (as_aux_lemma => kernel_rfl)
theorem named : Try.pinned.checked.prog.funcNamed Rows.fnExactRunStoreRow.func = some 3 := by kernel_rfl
theorem instance_ : decide (Func.isInstance Try.pinned.checked.prog Try.f3 Rows.fnExactRunStoreRow.origin Rows.fnExactRunStoreRow.targs) = true := by kernel_rfl
set_option maxHeartbeats 8000000 in
theorem proved : Rows.FnExactRunStoreSaid :=
  OpenClaim.holds_of_wide 3 Try.f3 rfl rfl rfl rfl rfl rfl rfl ⟨rfl, rfl, rfl, rfl, rfl⟩ rfl rfl rfl rfl rfl named Try.func3 closed
    (of_decide_eq_true instance_) (by unfold Func.isWrapper; first | (rw [if_pos (by decide +kernel)]; kernel_rfl) | (rw [if_neg (by decide +kernel)]; exact ⟨rfl, rfl⟩))
    (fun os started H enc _ => lifted os started H enc)
end Go.Proofs.Ytfheepjfpgiaoaa.lawRunStoreRow
