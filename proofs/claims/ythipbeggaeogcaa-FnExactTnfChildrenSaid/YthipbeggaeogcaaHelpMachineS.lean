/-
  Contracts of the laws' helpers over []Machine: eqMachineS, markMachineS, heldMachineS.
-/
import Derived.Test.YthipbeggaeogcaaMcs
import Derived.Test.YthipbeggaeogcaaHelpMachine
import Derived.Test.YthipbeggaeogcaaHelpL
namespace Go.Proofs.Ythipbeggaeogcaa
open Go.RowKit

theorem heldR_m (A : Option Addr) (n c : Nat) (m : Int) (w : World) (hx : S3 w A n (marks3 m n)) (h0 : 0 ≤ m) (h1 : m + n * 3 ≤ 9223372036854775807) :
    Calls Try.prog 136 #[.slice A n c, .int .i64 m] w fun e w' => e = .returned (.int .i64 (m + n * 3)) ∧ w = w' := by
  go_enter Try.func136, Try.ntmps136
  go_wp2
  go_loop [1, 5] (fun q i => ∃ k : Nat, k ≤ n ∧ i = .int .i64 (k : Int) ∧ q = .int .i64 (m + k * 3)) (fun _ i => n - (intOf i).toNat)
  case atStart => exact ⟨0, by omega, rfl, by simp⟩
  case round =>
    obtain ⟨k, hk, rfl, rfl⟩ := hrel
    by_cases hlt : k < n
    · obtain ⟨r, b, off, HR, _, rfl, hbl, q0, q1, q2⟩ := hx.pick hlt
      have hr := marks3_get HR.out
      subst hr
      dsimp only at q0 q1 q2
      clear HR
      go_wp2_with fail
      go_round
      case rel => exact ⟨k + 1, by omega, by go_num, by go_num⟩
      case measure => simp [intOf]; omega
    · go_wp2_with fail
      obtain rfl : k = n := by omega
      go_ret
      exact ⟨rfl, rfl⟩

def MarkRO (w : World) (lo hi : Nat) (A : Option Addr) (n c : Nat) (m : Int) (e : Ending) (w' : World) : Prop :=
  e = .returned (.int .i64 (m + n * 3)) ∧ Own w' lo 169 3 A n c (cells3 (marks3 m n)) ∧ Tch lo hi w w' ∧ (∀ b, blk A ≠ some b → w'.heap[b]? = w.heap[b]?)

set_option maxHeartbeats 2000000 in
theorem markR_o (A : Option Addr) (n c : Nat) (rs : List R3) (m : Int) (w : World) (lo hi : Nat) (ho : Own w lo 169 3 A n c (cells3 rs)) (hh : ∀ b, blk A = some b → b < hi) (h0 : 0 ≤ m) (h1 : m + n * 3 ≤ 9223372036854775807) :
    Calls Try.prog 129 #[.slice A n c, .int .i64 m] w (MarkRO w lo hi A n c m) := by
  have hl : rs.length = n := S3.len ho.rd
  have HL := Lib.hid hl
  have HH := Lib.hid hh
  clear hl hh
  have o0 : Own w lo 169 3 A n c (cells3 (markedR m rs 0)) := by rw [markedR_zero]; exact ho
  go_enter Try.func129, Try.ntmps129
  go_wp2
  go_loopw [1, 5] (fun q i wr => ∃ k : Nat, k ≤ n ∧ i = .int .i64 (k : Int) ∧ q = .int .i64 (m + k * 3) ∧ Own wr lo 169 3 A n c (cells3 (markedR m rs k)) ∧ Tch lo hi w wr ∧ (∀ b, blk A ≠ some b → wr.heap[b]? = w.heap[b]?)) (fun _ i _ => n - (intOf i).toNat)
  case atStart => exact ⟨0, by omega, rfl, by simp, o0, Tch.refl _ _ _, fun _ _ => rfl⟩
  case round =>
    obtain ⟨k, hk, rfl, rfl, ok, ht, hs⟩ := hrel
    have HS := Lib.hid hs
    clear hs o0 ho
    by_cases hlt : k < n
    · have hll : (cells3 (markedR m rs k)).length = n * 3 := by rw [length_cells3, markedR_len (by rw [HL.out]; omega), HL.out]
      obtain ⟨b, off, he, hlo, hltb, hc0, hf0⟩ := ok.at_ (k := k * 3) (by omega)
      obtain ⟨b1, off1, he1, _, _, hc1, hf1⟩ := ok.at_ (k := k * 3 + 1) (by omega)
      obtain ⟨b2, off2, he2, _, _, hc2, hf2⟩ := ok.at_ (k := k * 3 + 2) (by omega)
      subst he
      simp only [Option.some.injEq, Addr.mk.injEq, and_true] at he1 he2
      obtain ⟨rfl, rfl⟩ := he1
      obtain ⟨rfl, rfl⟩ := he2
      have hbh := HH.out b rfl
      have o4 := ((ok.set_ (k := k * 3) (by omega) (.int .i64 (m + (k : Int) * 3))).set_ (k := k * 3 + 1) (by rw [List.length_set]; omega) (.int .i64 (m + (k : Int) * 3 + 1))).set_ (k := k * 3 + 2) (by rw [List.length_set, List.length_set]; omega) (.int .i64 (m + (k : Int) * 3 + 1 + 1))
      rw [cells3_set _ _ ⟨m + (k : Int) * 3, m + (k : Int) * 3 + 1, m + (k : Int) * 3 + 1 + 1⟩ (by rw [markedR_len (by rw [HL.out]; omega), HL.out]; exact hlt), markedR_next (by rw [HL.out]; exact hlt), ← Nat.add_assoc, ← Nat.add_assoc] at o4
      have t4 := ((ht.setCell (p := ⟨b, off + k * 3, none⟩) hlo hbh (.int .i64 (m + (k : Int) * 3))).setCell (p := ⟨b, off + k * 3 + 1, none⟩) hlo hbh (.int .i64 (m + (k : Int) * 3 + 1))).setCell (p := ⟨b, off + k * 3 + 2, none⟩) hlo hbh (.int .i64 (m + (k : Int) * 3 + 1 + 1))
      have s4 : Hid (∀ g, blk (some ⟨b, off, none⟩) ≠ some g → (((wr.setCell ⟨b, off + k * 3, none⟩ (.int .i64 (m + (k : Int) * 3))).setCell ⟨b, off + k * 3 + 1, none⟩ (.int .i64 (m + (k : Int) * 3 + 1))).setCell ⟨b, off + k * 3 + 2, none⟩ (.int .i64 (m + (k : Int) * 3 + 1 + 1))).heap[g]? = w.heap[g]?) := Lib.hid (fun g hg => by
        have hgb : g ≠ b := fun e => hg (by rw [e]; rfl)
        rw [Below.heap_setCell _ _ _ _ hgb, Below.heap_setCell _ _ _ _ hgb, Below.heap_setCell _ _ _ _ hgb]
        exact HS.out g hg)
      rw [← Nat.add_assoc] at hc1 hf1 hc2 hf2
      have i1 : m + (k : Int) * 3 + 1 ≤ 9223372036854775806 := by omega
      clear ok ht
      go_wp2
      go_roundw
      case rel => exact ⟨k + 1, by omega, by go_num, by go_num, o4, t4, s4.out⟩
      case measure => simp [intOf]; omega
    · go_wp2
      obtain rfl : k = n := by omega
      go_ret
      rw [markedR_end HL.out] at ok
      exact ⟨rfl, ok, ht, HS.out⟩

set_option maxHeartbeats 4000000 in
theorem eqMachineS_c (A B : Option Addr) (n c d lo lo' : Nat) (ts us : List Mc) (w : World) (hA : OMs w lo A n c ts) (hB : OMs w lo' B n d us) (h : machs us = machs ts) (hs : ∀ x ∈ machs ts, x.rs.length ≤ 6000) (hn : n ≤ 1048576) :
    Calls Try.prog 58 #[.slice A n c, .slice B n d] w fun e w' => e = .returned (.bool true) ∧ Below w.heap.size w w' := by
  have HE := Lib.hid h
  have HSS := Lib.hid hs
  clear h hs
  go_enter Try.func58, Try.ntmps58
  go_wp2_with fail
  go_loopw [5] (fun i wr => ∃ k : Nat, k ≤ n ∧ i = .int .i64 (k : Int) ∧ Below w.heap.size w wr) (fun i _ => n - (intOf i).toNat)
  case atStart => exact ⟨0, Nat.zero_le _, rfl, Below.refl _ _⟩
  case round =>
    obtain ⟨k, hk, rfl, hz⟩ := hrel
    by_cases hlt : k < n
    · obtain ⟨t, b, off, HT, rfl, hbl, _, e0, e1, e2, oL, _⟩ := (hA.below hz).pick hlt
      obtain ⟨u, b', off', HU, rfl, hbl', _, e0', e1', e2', oL', _⟩ := (hB.below hz).pick hlt
      have hc : u.mach = t.mach := by
        have h1 := congrArg (·[k]?) HE.out
        simp only [machs, List.getElem?_map, HT.out, HU.out, Option.map_some, Option.some.injEq] at h1
        exact h1
      have hx : t.rs.length ≤ 6000 := HSS.out t.mach (List.mem_map.2 ⟨t, List.mem_of_getElem? HT.out, rfl⟩)
      obtain ⟨sy', st', A', k', rs'⟩ := u
      simp only [Mc.mach, Mch.mk.injEq] at hc
      obtain ⟨hq, hxs, hys⟩ := hc
      dsimp only at hq hxs hys e0' e1' e2' oL'
      subst hq
      subst hxs
      subst hys
      have i1 : (0 : Int) ≤ (k : Int) := by omega
      have i2 : (k : Int) < (n : Int) := by omega
      clear HU HT
      go_wp2_with fail
      go_region_held3 (fun w' => w'.cell? ⟨b, off + k * 3, none⟩ = some (.int .i64 t.sy) ∧ w'.cell? ⟨b, off + k * 3 + 1, none⟩ = some (.int .i64 t.st) ∧ w'.cell? ⟨b, off + k * 3 + 2, none⟩ = some (.slice t.A t.rs.length t.k) ∧ w'.cell? ⟨b', off' + k * 3, none⟩ = some (.int .i64 t.sy) ∧ w'.cell? ⟨b', off' + k * 3 + 1, none⟩ = some (.int .i64 t.st) ∧ w'.cell? ⟨b', off' + k * 3 + 2, none⟩ = some (.slice A' t.rs.length k'))
        (first | (go_keep; done) | (exact ⟨(z3.cell (p := ⟨b, _, none⟩) hbl).trans e0, (z3.cell (p := ⟨b, _, none⟩) hbl).trans e1, (z3.cell (p := ⟨b, _, none⟩) hbl).trans e2, (z3.cell (p := ⟨b', _, none⟩) hbl').trans e0', (z3.cell (p := ⟨b', _, none⟩) hbl').trans e1', (z3.cell (p := ⟨b', _, none⟩) hbl').trans e2'⟩))
        ((go_at_call 54; refine (eqMachine_any _ _ _ _ _ t.rs _ _ _ _ _ t.rs _ (oL.drewN 1).rd (oL'.drewN 1).rd (by omega)).mono ?_; rintro e W3 ⟨rfl, z3'⟩; have z3 : Below wr.heap.size wr W3 := below_undrew (n := 1) z3'))
      rw [sameMachineB_self]
      go_wp2_with fail
      go_roundw
      case rel => exact ⟨k + 1, by omega, by go_num, hz.trans (z3.mono hz.size)⟩
      case measure => simp [intOf]; omega
    · go_wp2_with fail
      go_ret
      exact ⟨rfl, hz⟩

def MarkMs (w : World) (lo hi : Nat) (A : Option Addr) (n c : Nat) (ts : List Mc) (p : Int) (e : Ending) (w' : World) : Prop :=
  e = .returned (.int .i64 (p + (offM ts n : Int))) ∧ OMs w' lo A n c (markToM p ts n) ∧ Tch lo hi w w'

set_option maxHeartbeats 8000000 in
theorem markMachineS_c (A : Option Addr) (n c : Nat) (ts : List Mc) (p : Int) (w : World) (lo hi : Nat) (hA : OMs w lo A n c ts) (hh : ∀ b, RecsB A (ts.flatMap Mc.rows) b → b < hi) (hs : ∀ x ∈ machs ts, x.rs.length ≤ 6000) (hn : n ≤ 12000) (g0 : 0 ≤ p) (g1 : p ≤ 1000000000) :
    Calls Try.prog 59 #[.slice A n c, .int .i64 p] w (MarkMs w lo hi A n c ts p) := by
  have HSS := Lib.hid hs
  have HH := Lib.hid hh
  have hl : ts.length = n := hA.len
  have HL := Lib.hid hl
  have HOF : Hid (∀ k, k ≤ n → offM ts k ≤ 216024000) := Lib.hid (fun k hk => by
    have := offM_le ts 18002 (fun t ht => by have := HSS.out t.mach (List.mem_map.2 ⟨t, ht, rfl⟩); show 2 + t.rs.length * 3 ≤ 18002; have h1 : t.rs.length ≤ 6000 := this; omega) k
    rw [HL.out] at this
    omega)
  clear hs hh hl
  have h0 : OMs w lo A n c (markToM p ts 0) := by rw [markToM_zero]; exact hA
  go_enter Try.func59, Try.ntmps59
  go_wp2_with fail
  go_loopw [1, 5] (fun q i wr => ∃ k : Nat, k ≤ n ∧ i = .int .i64 (k : Int) ∧ q = .int .i64 (p + (offM ts k : Int)) ∧ OMs wr lo A n c (markToM p ts k) ∧ Tch lo hi w wr) (fun _ i _ => n - (intOf i).toNat)
  case atStart => exact ⟨0, Nat.zero_le _, rfl, by simp [offM_zero], h0, Tch.refl _ _ _⟩
  case round =>
    obtain ⟨k, hk, rfl, rfl, hO, ht⟩ := hrel
    clear h0
    by_cases hlt : k < n
    · obtain ⟨t, b, off, HT, rfl, hbl, hlob, e0, e1, e2, oL, hfz⟩ := hO.pick hlt
      have hkl : k < ts.length := by rw [HL.out]; exact hlt
      have htk : t = ts[k] := by
        have h1 := markToM_get (p := p) (k := k) (List.getElem?_eq_getElem hkl)
        rw [HT.out] at h1
        simpa using h1
      have HTS : Hid (ts[k]? = some t) := Lib.hid (by rw [htk]; exact List.getElem?_eq_getElem hkl)
      have hx : t.rs.length ≤ 6000 := HSS.out t.mach (List.mem_map.2 ⟨t, List.mem_of_getElem? HTS.out, rfl⟩)
      have hmem : t ∈ ts := List.mem_of_getElem? HTS.out
      have hof := HOF.out k hk
      have hbh : b < hi := HH.out b (.inl rfl)
      have HLh : Hid (∀ b, blk t.A = some b → b < hi) := Lib.hid (fun b hb => HH.out b (.inr ⟨_, List.mem_flatMap.2 ⟨t, hmem, List.mem_cons_self⟩, hb⟩))
      have HNX := Lib.hid (offM_next HTS.out)
      have HMN := Lib.hid (markToM_next (p := p) HTS.out)
      clear htk hmem
      have i1 : (0 : Int) ≤ (k : Int) := by omega
      have i2 : (k : Int) < (n : Int) := by omega
      have f0 := hfz (off + k * 3)
      have f1 := hfz (off + k * 3 + 1)
      have hO1 := hO.set01 HT.out (p + (offM ts k : Int)) (p + (offM ts k : Int) + 1)
      have ht1 := (ht.setCell (p := ⟨b, off + k * 3, none⟩) hlob hbh (.int .i64 (p + (offM ts k : Int)))).setCell (p := ⟨b, off + k * 3 + 1, none⟩) hlob hbh (.int .i64 (p + (offM ts k : Int) + 1))
      obtain ⟨cur, hcur⟩ : ∃ cur, Blk wr b 82 cur := by
        rcases hO.spine.2 with ⟨h, _⟩ | ⟨b2, o2, cur, h, _, hg, _⟩
        · cases h
        · simp only [Option.some.injEq, Addr.mk.injEq, and_true] at h
          obtain ⟨rfl, rfl⟩ := h
          exact ⟨cur, hg⟩
      have oL1 := (oL.far (p := ⟨b, off + k * 3, none⟩) (hcur.apt oL (by decide)) (.int .i64 (p + (offM ts k : Int)))).far (p := ⟨b, off + k * 3 + 1, none⟩) (hcur.apt oL (by decide)) (.int .i64 (p + (offM ts k : Int) + 1))
      have e21 : ((wr.setCell ⟨b, off + k * 3, none⟩ (.int .i64 (p + (offM ts k : Int)))).setCell ⟨b, off + k * 3 + 1, none⟩ (.int .i64 (p + (offM ts k : Int) + 1))).cell? ⟨b, off + k * 3 + 2, none⟩ = some (.slice t.A t.rs.length t.k) := by rw [World.cell?_setCell_other _ _ _ _ (by simp), World.cell?_setCell_other _ _ _ _ (by simp)]; exact e2
      clear hfz
      have HT1 : Hid (((markToM p ts k).set k { t with sy := p + (offM ts k : Int), st := p + (offM ts k : Int) + 1 })[k]? = some { t with sy := p + (offM ts k : Int), st := p + (offM ts k : Int) + 1 }) := Lib.hid (by rw [List.getElem?_set_self (by rw [markToM_len]; exact hkl)])
      go_upto_region 7 with fail
      generalize (wr.setCell ⟨b, off + k * 3, none⟩ (.int .i64 (p + (offM ts k : Int)))).setCell ⟨b, off + k * 3 + 1, none⟩ (.int .i64 (p + (offM ts k : Int) + 1)) = w1 at *
      clear hcur f0 f1 e0 e1 e2 oL ht hO hlob
      go_wp2_with fail
      refine (markR_o _ _ _ t.rs _ _ lo hi oL1 HLh.out (by omega) (by omega)).mono ?_
      rintro e w2 ⟨rfl, oL2, t2, s2⟩
      have hO2 := hO1.setr HT1.out (rs := marks3 (p + (offM ts k : Int) + 1 + 1) t.rs.length) (length_marks3 _ _) oL2 s2
      have hO4 : OMs w2 lo (some ⟨b, off, none⟩) n c (markToM p ts (k + 1)) := by
        rw [← HMN.out]
        rw [List.set_set] at hO2
        exact hO2
      have ht3 := ht1.trans t2
      have hsz : p + (offM ts k : Int) + 1 + 1 + (t.rs.length : Int) * 3 = p + (offM ts (k + 1) : Int) := by rw [HNX.out]; unfold Mc.size; omega
      have HSZ := Lib.hid hsz
      clear hsz s2 t2
      go_wp2_with fail
      go_roundw
      case rel => exact ⟨k + 1, by omega, by go_num, by rw [HSZ.out], hO4, ht3⟩
      case measure => simp [intOf]; omega
    · have hkn : k = n := by omega
      subst hkn
      go_wp2_with fail
      go_ret
      exact ⟨rfl, hO, ht⟩

set_option maxHeartbeats 8000000 in
theorem heldMachineS_c (A : Option Addr) (n c lo : Nat) (ts : List Mc) (p : Int) (w : World) (hA : OMs w lo A n c (markToM p ts n)) (hl : ts.length = n) (hs : ∀ x ∈ machs ts, x.rs.length ≤ 6000) (hn : n ≤ 12000) (g0 : 0 ≤ p) (g1 : p ≤ 1000000000) :
    Calls Try.prog 60 #[.slice A n c, .int .i64 p] w fun e w' => e = .returned (.int .i64 (p + (offM ts n : Int))) ∧ Below w.heap.size w w' := by
  have HSS := Lib.hid hs
  have HL := Lib.hid hl
  have HOF : Hid (∀ k, k ≤ n → offM ts k ≤ 216024000) := Lib.hid (fun k hk => by
    have := offM_le ts 18002 (fun t ht => by have := HSS.out t.mach (List.mem_map.2 ⟨t, ht, rfl⟩); show 2 + t.rs.length * 3 ≤ 18002; have h1 : t.rs.length ≤ 6000 := this; omega) k
    rw [HL.out] at this
    omega)
  clear hs hl
  go_enter Try.func60, Try.ntmps60
  go_wp2_with fail
  go_loop [1, 5] (fun q i => ∃ k : Nat, k ≤ n ∧ i = .int .i64 (k : Int) ∧ q = .int .i64 (p + (offM ts k : Int))) (fun _ i => n - (intOf i).toNat)
  case atStart => exact ⟨0, Nat.zero_le _, rfl, by simp [offM_zero]⟩
  case round =>
    obtain ⟨k, hk, rfl, rfl⟩ := hrel
    by_cases hlt : k < n
    · obtain ⟨u, b, off, HU, rfl, hbl, hlob, e0, e1, e2, oL, _⟩ := hA.pick hlt
      have hkl : k < ts.length := by rw [HL.out]; exact hlt
      obtain ⟨t, hT⟩ : ∃ t, ts[k]? = some t := ⟨ts[k], List.getElem?_eq_getElem hkl⟩
      have hu : u = t.mark (p + (offM ts k : Int)) := by
        have h1 := markToM_get (p := p) (k := n) hT
        rw [HU.out, if_pos hlt] at h1
        simpa using h1
      have hx : t.rs.length ≤ 6000 := HSS.out t.mach (List.mem_map.2 ⟨t, List.mem_of_getElem? hT, rfl⟩)
      have hof := HOF.out k hk
      have HNX := Lib.hid (offM_next hT)
      subst hu
      have oL' : Own w lo 169 3 t.A t.rs.length t.k (cells3 (marks3 (p + (offM ts k : Int) + 1 + 1) t.rs.length)) := by simpa [Mc.mark, length_marks3] using oL
      have q0 : w.cell? ⟨b, off + k * 3, none⟩ = some (.int .i64 (p + (offM ts k : Int))) := e0
      have q1 : w.cell? ⟨b, off + k * 3 + 1, none⟩ = some (.int .i64 (p + (offM ts k : Int) + 1)) := e1
      have q2 : w.cell? ⟨b, off + k * 3 + 2, none⟩ = some (.slice t.A t.rs.length t.k) := by simpa [Mc.mark, length_marks3] using e2
      have i1 : (0 : Int) ≤ (k : Int) := by omega
      have i2 : (k : Int) < (n : Int) := by omega
      have gn1 : ¬ (p + (offM ts k : Int) + 1 + 1 + (t.rs.length : Int) * 3 < 0) := by omega
      have hsz2 : p + (offM ts k : Int) + 1 + 1 + (t.rs.length : Int) * 3 = p + (offM ts (k + 1) : Int) := by rw [HNX.out]; unfold Mc.size; omega
      have HSZ := Lib.hid hsz2
      clear e0 e1 e2 oL hsz2 HU hT
      go_wp2_with fail
      refine (heldR_m _ _ _ (p + (offM ts k : Int) + 1 + 1) _ oL'.rd (by omega) (by omega)).mono ?_
      rintro e w' ⟨rfl, rfl⟩
      go_wp2_with fail
      go_round
      case rel => exact ⟨k + 1, by omega, by go_num, by rw [HSZ.out]⟩
      case measure => simp [intOf]; omega
    · have hkn : k = n := by omega
      subst hkn
      go_wp2_with fail
      go_ret
      exact ⟨rfl, Below.refl _ _⟩
end Go.Proofs.Ythipbeggaeogcaa
