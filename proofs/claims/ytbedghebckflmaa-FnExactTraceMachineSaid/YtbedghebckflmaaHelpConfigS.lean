/-
  Contracts of the laws' helpers over []Config: eqConfigS, markConfigS, heldConfigS.
-/
import Derived.Test.YtbedghebckflmaaCfsM
import Derived.Test.YtbedghebckflmaaHelpConfig
import Derived.Test.YtbedghebckflmaaHelpL
namespace Go.Proofs.Ytbedghebckflmaa
open Go.RowKit

set_option maxHeartbeats 4000000 in
theorem eqConfigS_c (A B : Option Addr) (n c d lo lo' : Nat) (ts us : List Cf) (w : World) (hA : OCs w lo A n c ts) (hB : OCs w lo' B n d us) (h : confs us = confs ts) (hs : ∀ x ∈ confs ts, x.xs.length ≤ 200 ∧ x.ys.length ≤ 200) (hn : n ≤ 1048576) :
    Calls Try.prog 48 #[.slice A n c, .slice B n d] w fun e w' => e = .returned (.bool true) ∧ Below w.heap.size w w' := by
  have HE := Lib.hid h
  have HSS := Lib.hid hs
  clear h hs
  go_enter Try.func48, Try.ntmps48
  go_wp2_with fail
  go_loopw [5] (fun i wr => ∃ k : Nat, k ≤ n ∧ i = .int .i64 (k : Int) ∧ Below w.heap.size w wr) (fun i _ => n - (intOf i).toNat)
  case atStart => exact ⟨0, Nat.zero_le _, rfl, Below.refl _ _⟩
  case round =>
    obtain ⟨k, hk, rfl, hz⟩ := hrel
    by_cases hlt : k < n
    · obtain ⟨t, b, off, HT, rfl, hbl, _, e0, e1, e2, oL, oR, _⟩ := (hA.below hz).pick hlt
      obtain ⟨u, b', off', HU, rfl, hbl', _, e0', e1', e2', oL', oR', _⟩ := (hB.below hz).pick hlt
      have hc : u.conf = t.conf := by
        have h1 := congrArg (·[k]?) HE.out
        simp only [confs, List.getElem?_map, HT.out, HU.out, Option.map_some, Option.some.injEq] at h1
        exact h1
      have hsz := HSS.out t.conf (List.mem_map.2 ⟨t, List.mem_of_getElem? HT.out, rfl⟩)
      have hx : t.xs.length ≤ 200 := hsz.1
      have hy : t.ys.length ≤ 200 := hsz.2
      obtain ⟨q', L', a', xs', R', d', ys'⟩ := u
      simp only [Cf.conf, Conf.mk.injEq] at hc
      obtain ⟨hq, hxs, hys⟩ := hc
      dsimp only at hq hxs hys e0' e1' e2' oL' oR'
      subst hq
      subst hxs
      subst hys
      have i1 : (0 : Int) ≤ (k : Int) := by omega
      have i2 : (k : Int) < (n : Int) := by omega
      clear hsz HU HT
      go_wp2_with fail
      go_region_held3 (fun w' => w'.cell? ⟨b, off + k * 3, none⟩ = some (.int .i64 t.q) ∧ w'.cell? ⟨b, off + k * 3 + 1, none⟩ = some (.slice t.L t.xs.length t.a) ∧ w'.cell? ⟨b, off + k * 3 + 2, none⟩ = some (.slice t.R t.ys.length t.d) ∧ w'.cell? ⟨b', off' + k * 3, none⟩ = some (.int .i64 t.q) ∧ w'.cell? ⟨b', off' + k * 3 + 1, none⟩ = some (.slice L' t.xs.length a') ∧ w'.cell? ⟨b', off' + k * 3 + 2, none⟩ = some (.slice R' t.ys.length d'))
        (first | (go_keep; done) | (exact ⟨(z3.cell (p := ⟨b, _, none⟩) hbl).trans e0, (z3.cell (p := ⟨b, _, none⟩) hbl).trans e1, (z3.cell (p := ⟨b, _, none⟩) hbl).trans e2, (z3.cell (p := ⟨b', _, none⟩) hbl').trans e0', (z3.cell (p := ⟨b', _, none⟩) hbl').trans e1', (z3.cell (p := ⟨b', _, none⟩) hbl').trans e2'⟩))
        ((go_at_call 24; refine (eqConfig_any _ _ _ _ t.xs _ _ _ t.ys _ _ _ _ t.xs _ _ _ t.ys _ (oL.drewN 1).rd (oL'.drewN 1).rd (by omega) (oR.drewN 1).rd (oR'.drewN 1).rd (by omega)).mono ?_; rintro e W3 ⟨rfl, z3'⟩; have z3 : Below wr.heap.size wr W3 := below_undrew (n := 1) z3'))
      rw [sameConfigB_self]
      go_wp2_with fail
      go_roundw
      case rel => exact ⟨k + 1, by omega, by go_num, hz.trans (z3.mono hz.size)⟩
      case measure => simp [intOf]; omega
    · go_wp2_with fail
      go_ret
      exact ⟨rfl, hz⟩

set_option maxHeartbeats 400000 in
theorem markI_z (A : Option Addr) (c : Nat) (m : Int) (w : World) : Calls Try.prog 31 #[.slice A 0 c, .int .i64 m] w fun e w' => e = .returned (.int .i64 m) ∧ w = w' := by
  go_enter Try.func31, Try.ntmps31
  go_wp2
  go_loop [1, 5] (fun q i => q = .int .i64 m ∧ i = .int .i64 0) (fun _ _ => 0)
  case atStart => exact ⟨rfl, rfl⟩
  case round =>
    obtain ⟨rfl, rfl⟩ := hrel
    go_wp2
    go_ret
    exact ⟨rfl, rfl⟩
def MarkO (w : World) (lo hi : Nat) (A : Option Addr) (n c : Nat) (m : Int) (e : Ending) (w' : World) : Prop :=
  e = .returned (.int .i64 (m + n)) ∧ Own w' lo 2 1 A n c (ints (marks m n)) ∧ Tch lo hi w w' ∧ (∀ b, blk A ≠ some b → w'.heap[b]? = w.heap[b]?)
theorem markI_o (A : Option Addr) (n c : Nat) (xs : List Int) (m : Int) (w : World) (lo hi : Nat) (ho : Own w lo 2 1 A n c (ints xs)) (hh : ∀ b, blk A = some b → b < hi) (h0 : 0 ≤ m) (h1 : m + n ≤ 9223372036854775807) :
    Calls Try.prog 31 #[.slice A n c, .int .i64 m] w (MarkO w lo hi A n c m) := by
  rcases Nat.eq_zero_or_pos n with hn | hn
  · subst hn
    have hx : xs = [] := by have := ho.1; rw [length_ints] at this; exact List.eq_nil_of_length_eq_zero (by omega)
    subst hx
    refine (markI_z A c m w).mono ?_
    rintro e w' ⟨rfl, rfl⟩
    exact ⟨ret_int (by omega), ho, Tch.refl _ _ _, fun _ _ => rfl⟩
  · refine (markI A n c xs m w lo hi (.inr ho) hh h0 h1).mono ?_
    rintro e w' ⟨rfl, oo, t, s⟩
    exact ⟨rfl, oo.resolve_left (fun h => by omega), t, s⟩

def MarkCs (w : World) (lo hi : Nat) (A : Option Addr) (n c : Nat) (ts : List Cf) (p : Int) (e : Ending) (w' : World) : Prop :=
  e = .returned (.int .i64 (p + (offC ts n : Int))) ∧ OCs w' lo A n c (markTo p ts n) ∧ Tch lo hi w w'

set_option maxHeartbeats 8000000 in
theorem markConfigS_c (A : Option Addr) (n c : Nat) (ts : List Cf) (p : Int) (w : World) (lo hi : Nat) (hA : OCs w lo A n c ts) (hh : ∀ b, RecsB A (ts.flatMap Cf.rows) b → b < hi) (hs : ∀ x ∈ confs ts, x.xs.length ≤ 200 ∧ x.ys.length ≤ 200) (hn : n ≤ 1000) (g0 : 0 ≤ p) (g1 : p ≤ 1000000000) :
    Calls Try.prog 49 #[.slice A n c, .int .i64 p] w (MarkCs w lo hi A n c ts p) := by
  have HSS := Lib.hid hs
  have HH := Lib.hid hh
  have hl : ts.length = n := hA.len
  have HL := Lib.hid hl
  have HOF : Hid (∀ k, k ≤ n → offC ts k ≤ 401000) := Lib.hid (fun k hk => by
    have := offC_le ts 401 (fun t ht => by have := HSS.out t.conf (List.mem_map.2 ⟨t, ht, rfl⟩); show 1 + t.xs.length + t.ys.length ≤ 401; have h1 : t.xs.length ≤ 200 := this.1; have h2 : t.ys.length ≤ 200 := this.2; omega) k
    rw [HL.out] at this
    omega)
  clear hs hh hl
  have h0 : OCs w lo A n c (markTo p ts 0) := by rw [markTo_zero]; exact hA
  go_enter Try.func49, Try.ntmps49
  go_wp2_with fail
  go_loopw [1, 5] (fun q i wr => ∃ k : Nat, k ≤ n ∧ i = .int .i64 (k : Int) ∧ q = .int .i64 (p + (offC ts k : Int)) ∧ OCs wr lo A n c (markTo p ts k) ∧ Tch lo hi w wr) (fun _ i _ => n - (intOf i).toNat)
  case atStart => exact ⟨0, Nat.zero_le _, rfl, by simp [offC_zero], h0, Tch.refl _ _ _⟩
  case round =>
    obtain ⟨k, hk, rfl, rfl, hO, ht⟩ := hrel
    clear h0
    by_cases hlt : k < n
    · obtain ⟨t, b, off, HT, rfl, hbl, hlob, e0, e1, e2, oL, oR, hfz⟩ := hO.pick hlt
      have hkl : k < ts.length := by rw [HL.out]; exact hlt
      have htk : t = ts[k] := by
        have h1 := markTo_get (p := p) (k := k) (List.getElem?_eq_getElem hkl)
        rw [HT.out] at h1
        simpa using h1
      have HTS : Hid (ts[k]? = some t) := Lib.hid (by rw [htk]; exact List.getElem?_eq_getElem hkl)
      have hsz := HSS.out t.conf (List.mem_map.2 ⟨t, List.mem_of_getElem? HTS.out, rfl⟩)
      have hx : t.xs.length ≤ 200 := hsz.1
      have hy : t.ys.length ≤ 200 := hsz.2
      have hmem : t ∈ ts := List.mem_of_getElem? HTS.out
      have hof := HOF.out k hk
      have hbh : b < hi := HH.out b (.inl rfl)
      have HLh : Hid (∀ b, blk t.L = some b → b < hi) := Lib.hid (fun b hb => HH.out b (.inr ⟨_, List.mem_flatMap.2 ⟨t, hmem, List.mem_cons_self⟩, hb⟩))
      have HRh : Hid (∀ b, blk t.R = some b → b < hi) := Lib.hid (fun b hb => HH.out b (.inr ⟨_, List.mem_flatMap.2 ⟨t, hmem, List.mem_cons_of_mem _ List.mem_cons_self⟩, hb⟩))
      have HNX := Lib.hid (offC_next HTS.out)
      have HMN := Lib.hid (markTo_next (p := p) HTS.out)
      clear htk hsz hmem
      have i1 : (0 : Int) ≤ (k : Int) := by omega
      have i2 : (k : Int) < (n : Int) := by omega
      have f0 := hfz (off + k * 3)
      have hO1 := hO.setq HT.out (p + (offC ts k : Int))
      have ht1 := ht.setCell (p := ⟨b, off + k * 3, none⟩) hlob hbh (.int .i64 (p + (offC ts k : Int)))
      obtain ⟨cur, hcur⟩ : ∃ cur, Blk wr b 38 cur := by
        rcases hO.spine.2 with ⟨h, _⟩ | ⟨b2, o2, cur, h, _, hg, _⟩
        · cases h
        · simp only [Option.some.injEq, Addr.mk.injEq, and_true] at h
          obtain ⟨rfl, rfl⟩ := h
          exact ⟨cur, hg⟩
      have oL1 := oL.far (p := ⟨b, off + k * 3, none⟩) (hcur.apt oL (by decide)) (.int .i64 (p + (offC ts k : Int)))
      have oR1 := oR.far (p := ⟨b, off + k * 3, none⟩) (hcur.apt oR (by decide)) (.int .i64 (p + (offC ts k : Int)))
      have e11 : (wr.setCell ⟨b, off + k * 3, none⟩ (.int .i64 (p + (offC ts k : Int)))).cell? ⟨b, off + k * 3 + 1, none⟩ = some (.slice t.L t.xs.length t.a) := by rw [World.cell?_setCell_other _ _ _ _ (by simp)]; exact e1
      have e21 : (wr.setCell ⟨b, off + k * 3, none⟩ (.int .i64 (p + (offC ts k : Int)))).cell? ⟨b, off + k * 3 + 2, none⟩ = some (.slice t.R t.ys.length t.d) := by rw [World.cell?_setCell_other _ _ _ _ (by simp)]; exact e2
      have hnb : ∀ b', blk t.L = some b' → b' ≠ b := fun b' hb' e => hcur.apt oL (by decide) (e ▸ hb')
      have HNB := Lib.hid hnb
      clear hnb hfz
      have HLR := Lib.hid (hO.lr HT.out)
      have HT1 : Hid (((markTo p ts k).set k { t with q := p + (offC ts k : Int) })[k]? = some { t with q := p + (offC ts k : Int) }) := Lib.hid (by rw [List.getElem?_set_self (by rw [markTo_len]; exact hkl)])
      go_upto_region 5 with fail
      have hb1 : Blk (wr.setCell ⟨b, off + k * 3, none⟩ (.int .i64 (p + (offC ts k : Int)))) b 38 _ := hcur.set_ _ _
      generalize wr.setCell ⟨b, off + k * 3, none⟩ (.int .i64 (p + (offC ts k : Int))) = w1 at *
      clear hcur f0 e0 e1 e2 oL oR ht hO hlob
      go_wp2_with fail
      refine (markI_o _ _ _ t.xs _ _ lo hi oL1 HLh.out (by omega) (by omega)).mono ?_
      rintro e w2 ⟨rfl, oL2, t2, s2⟩
      have hO2 := hO1.setL HT1.out (xs := marks (p + (offC ts k : Int) + 1) t.xs.length) (length_marks _ _) oL2 s2
      have oR2 : Own w2 lo 2 1 t.R t.ys.length t.d (ints t.ys) := oR1.kept (fun b' hb' _ _ => s2 b' (fun h => HLR.out b' h hb'))
      have e22 : w2.cell? ⟨b, off + k * 3 + 2, none⟩ = some (.slice t.R t.ys.length t.d) := (World.cell?_of_block (s2 b (fun h => HNB.out b h rfl))).trans e21
      have ht2 := ht1.trans t2
      have S2 := Lib.hid s2
      clear s2 t2 ht1 oL1 oR1 hO1 e21 e11
      go_wp2_with fail
      refine (markI_o _ _ _ t.ys _ _ lo hi oR2 HRh.out (by omega) (by omega)).mono ?_
      rintro e w3 ⟨rfl, oR3, t3, s3⟩
      have HT2 : Hid ((((markTo p ts k).set k { t with q := p + (offC ts k : Int) }).set k { t with q := p + (offC ts k : Int), xs := marks (p + (offC ts k : Int) + 1) t.xs.length })[k]? = some { t with q := p + (offC ts k : Int), xs := marks (p + (offC ts k : Int) + 1) t.xs.length }) := Lib.hid (by rw [List.getElem?_set_self (by rw [List.length_set, markTo_len]; exact hkl)])
      have hO3 := hO2.setR HT2.out (ys := marks (p + (offC ts k : Int) + 1 + (t.xs.length : Int)) t.ys.length) (length_marks _ _) oR3 s3
      have hO4 : OCs w3 lo (some ⟨b, off, none⟩) n c (markTo p ts (k + 1)) := by
        rw [← HMN.out]
        rw [List.set_set, List.set_set] at hO3
        exact hO3
      have ht3 := ht2.trans t3
      have hsz : p + (offC ts k : Int) + 1 + (t.xs.length : Int) + (t.ys.length : Int) = p + (offC ts (k + 1) : Int) := by rw [HNX.out]; unfold Cf.size; omega
      have HSZ := Lib.hid hsz
      clear hsz s3 t3
      go_wp2_with fail
      go_roundw
      case rel => exact ⟨k + 1, by omega, by go_num, by rw [HSZ.out], hO4, ht3⟩
      case measure => simp [intOf]; omega
    · have hkn : k = n := by omega
      subst hkn
      go_wp2_with fail
      go_ret
      exact ⟨rfl, hO, ht⟩

theorem heldF_m {p : Int} {n : Nat} {xs : List Int} (h : xs = marks p n) : heldF p xs = p + n := by subst h; exact heldF_marks p n
set_option maxHeartbeats 8000000 in
theorem heldConfigS_c (A : Option Addr) (n c lo : Nat) (ts : List Cf) (p : Int) (w : World) (hA : OCs w lo A n c (markTo p ts n)) (hl : ts.length = n) (hs : ∀ x ∈ confs ts, x.xs.length ≤ 200 ∧ x.ys.length ≤ 200) (hn : n ≤ 1000) (g0 : 0 ≤ p) (g1 : p ≤ 1000000000) :
    Calls Try.prog 50 #[.slice A n c, .int .i64 p] w fun e w' => e = .returned (.int .i64 (p + (offC ts n : Int))) ∧ Below w.heap.size w w' := by
  have HSS := Lib.hid hs
  have HL := Lib.hid hl
  have HOF : Hid (∀ k, k ≤ n → offC ts k ≤ 401000) := Lib.hid (fun k hk => by
    have := offC_le ts 401 (fun t ht => by have := HSS.out t.conf (List.mem_map.2 ⟨t, ht, rfl⟩); show 1 + t.xs.length + t.ys.length ≤ 401; have h1 : t.xs.length ≤ 200 := this.1; have h2 : t.ys.length ≤ 200 := this.2; omega) k
    rw [HL.out] at this
    omega)
  clear hs hl
  go_enter Try.func50, Try.ntmps50
  go_wp2_with fail
  go_loop [1, 5] (fun q i => ∃ k : Nat, k ≤ n ∧ i = .int .i64 (k : Int) ∧ q = .int .i64 (p + (offC ts k : Int))) (fun _ i => n - (intOf i).toNat)
  case atStart => exact ⟨0, Nat.zero_le _, rfl, by simp [offC_zero]⟩
  case round =>
    obtain ⟨k, hk, rfl, rfl⟩ := hrel
    by_cases hlt : k < n
    · obtain ⟨u, b, off, HU, rfl, hbl, hlob, e0, e1, e2, oL, oR, _⟩ := hA.pick hlt
      have hkl : k < ts.length := by rw [HL.out]; exact hlt
      obtain ⟨t, hT⟩ : ∃ t, ts[k]? = some t := ⟨ts[k], List.getElem?_eq_getElem hkl⟩
      have hu : u = t.mark (p + (offC ts k : Int)) := by
        have h1 := markTo_get (p := p) (k := n) hT
        rw [HU.out, if_pos hlt] at h1
        simpa using h1
      have hsz := HSS.out t.conf (List.mem_map.2 ⟨t, List.mem_of_getElem? hT, rfl⟩)
      have hx : t.xs.length ≤ 200 := hsz.1
      have hy : t.ys.length ≤ 200 := hsz.2
      have hof := HOF.out k hk
      have HNX := Lib.hid (offC_next hT)
      subst hu
      have oL' : Own w lo 2 1 t.L t.xs.length t.a (ints (marks (p + (offC ts k : Int) + 1) t.xs.length)) := by simpa [Cf.mark, length_marks] using oL
      have oR' : Own w lo 2 1 t.R t.ys.length t.d (ints (marks (p + (offC ts k : Int) + 1 + (t.xs.length : Int)) t.ys.length)) := by simpa [Cf.mark, length_marks] using oR
      have q0 : w.cell? ⟨b, off + k * 3, none⟩ = some (.int .i64 (p + (offC ts k : Int))) := e0
      have q1 : w.cell? ⟨b, off + k * 3 + 1, none⟩ = some (.slice t.L t.xs.length t.a) := by simpa [Cf.mark, length_marks] using e1
      have q2 : w.cell? ⟨b, off + k * 3 + 2, none⟩ = some (.slice t.R t.ys.length t.d) := by simpa [Cf.mark, length_marks] using e2
      have i1 : (0 : Int) ≤ (k : Int) := by omega
      have i2 : (k : Int) < (n : Int) := by omega
      have gn1 : ¬ (p + (offC ts k : Int) + 1 + (t.xs.length : Int) < 0) := by omega
      have gn2 : ¬ (p + (offC ts k : Int) + 1 + (t.xs.length : Int) + (t.ys.length : Int) < 0) := by omega
      have hsz2 : p + (offC ts k : Int) + 1 + (t.xs.length : Int) + (t.ys.length : Int) = p + (offC ts (k + 1) : Int) := by rw [HNX.out]; unfold Cf.size; omega
      have HSZ := Lib.hid hsz2
      clear e0 e1 e2 oL oR hsz hsz2 HU hT
      go_wp2_with fail
      refine (heldI _ _ _ (marks (p + (offC ts k : Int) + 1) t.xs.length) _ _ oL'.rd (by omega) (by omega)).mono ?_
      rintro e w' ⟨rfl, rfl⟩
      rw [heldF_marks]
      go_wp2_with fail
      refine (heldI _ _ _ (marks (p + (offC ts k : Int) + 1 + (t.xs.length : Int)) t.ys.length) _ _ oR'.rd (by omega) (by omega)).mono ?_
      rintro e w' ⟨rfl, rfl⟩
      rw [heldF_marks]
      go_wp2_with fail
      go_round
      case rel => exact ⟨k + 1, by omega, by go_num, by rw [HSZ.out]⟩
      case measure => simp [intOf]; omega
    · have hkn : k = n := by omega
      subst hkn
      go_wp2_with fail
      go_ret
      exact ⟨rfl, Below.refl _ _⟩

theorem OCs.mkf_far {T : List TypeId} {w w' : World} {l hh lo n c : Nat} {A : Option Addr} {ts : List Cf} (h : OCs w lo A n c ts) (hf : MkF T l hh w w') (hd : ∀ b, lo ≤ b → b < l ∨ hh ≤ b) : OCs w' lo A n c ts :=
  Recs.keptB h (fun b hb => hf.far (Recs.blk_ge h b hb).2 (hd b (Recs.blk_ge h b hb).1))
theorem OCs.mkf_below {T : List TypeId} {w0 w w' : World} {l hh lo n c : Nat} {A : Option Addr} {ts : List Cf} (h0 : OCs w0 lo A n c ts) (hl : w0.heap.size ≤ l) (h : OCs w lo A n c ts) (hf : MkF T l hh w w') : OCs w' lo A n c ts :=
  Recs.keptB h (fun b hb => hf.far (Recs.blk_ge h b hb).2 (.inl (by have := (Recs.blk_ge h0 b hb).2; omega)))
theorem OCs.touch_below {w0 w w' : World} {l hh lo n c : Nat} {A : Option Addr} {ts : List Cf} (h0 : OCs w0 lo A n c ts) (hl : w0.heap.size ≤ l) (h : OCs w lo A n c ts) (ht : Tch l hh w w') : OCs w' lo A n c ts :=
  Recs.keptB h (fun b hb => ht.block b (Recs.blk_ge h b hb).2 (.inl (by have := (Recs.blk_ge h0 b hb).2; omega)))
theorem confs_len {ts : List Cf} {M : List Conf} (h : confs ts = M) : ts.length = M.length := by rw [← h]; simp [confs]
end Go.Proofs.Ytbedghebckflmaa
