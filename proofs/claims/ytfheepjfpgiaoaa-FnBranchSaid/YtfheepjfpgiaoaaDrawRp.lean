/-
  The reference reads commands from a text that shows them: l22ReadAll.
-/
import Derived.Test.YtfheepjfpgiaoaaDrawRd
namespace Go.Proofs.Ytfheepjfpgiaoaa
open Go.RowKit Go.PlainAid

/-- The text of commands; f: whether one stands ahead. -/
def Pg.txt : Bool → Pg → List Int
  | _, .done => []
  | f, .set v e r => (if f then [59] else []) ++ ((48 + (v : Int)) :: 61 :: (e.txt ++ r.txt true))
  | f, .wh e b r => (if f then [59] else []) ++ (119 :: (e.txt ++ (123 :: (b.txt false ++ (125 :: r.txt true)))))
/-- How deep bodies lie, and that expressions are small. -/
def Pg.nest : Pg → Nat
  | .done => 0
  | .set _ _ r => r.nest
  | .wh _ b r => max (b.nest + 1) r.nest
def Pg.small : Pg → Prop
  | .done => True
  | .set v e r => v < 4 ∧ e.low ∧ e.len ≤ 40 ∧ e.dep ≤ 40 ∧ r.small
  | .wh e b r => e.low ∧ e.len ≤ 40 ∧ e.dep ≤ 40 ∧ b.small ∧ r.small
/-- Behind the commands the text ends, or a brace stands. -/
def Ends (s : ByteArray) (k : Nat) : Prop := k = s.size ∨ (k < s.size ∧ bt s k = 125)
def ReadP (_s : ByteArray) (k : Nat) (p : Pg) (w : World) (e : Ending) (w' : World) : Prop :=
  ∃ A c ts, e = .returned (.tuple #[.slice A (List.length ts) c, .int .i64 ((k + (p.txt false).length : Nat) : Int), .bool true]) ∧ Hid (cmds ts = p.enc) ∧ OC w' w.heap.size A ts.length c ts ∧ Hid (∀ t ∈ ts, t.e.length ≤ 40) ∧ Below w.heap.size w w'
theorem At.lt {s : ByteArray} {k : Nat} {x : Int} {l : List Int} (h : At s k (x :: l)) : k < s.size := h.head.1
theorem Pg.first (p : Pg) (f : Bool) (hp : p ≠ .done) (hs : p.small) : ∃ x l, p.txt f = x :: l ∧ x ≠ 125 := by
  cases p with
  | done => exact absurd rfl hp
  | set v e r =>
    cases f with
    | true => exact ⟨59, _, rfl, by decide⟩
    | false => exact ⟨48 + (v : Int), _, rfl, by have : v < 4 := hs.1; omega⟩
  | wh e b r =>
    cases f with
    | true => exact ⟨59, _, rfl, by decide⟩
    | false => exact ⟨119, _, rfl, by decide⟩
set_option maxRecDepth 100000 in
set_option maxHeartbeats 8000000 in
theorem readAll_any (s : ByteArray) (hs : s.size ≤ 1000) : ∀ (d : Nat) (p : Pg) (k : Nat) (w : World), p.small → p.enc.length ≤ 80 → p.nest < d → d ≤ 1000 → At s k (p.txt false) → Ends s (k + (p.txt false).length) → Calls Try.prog 163 #[.string s, .int .i64 (k : Int), .int .i64 (d : Int)] w (ReadP s k p w) := by
  intro d
  have hbt := get_bt s
  induction d with
  | zero => intro p k w h1 h2 h3; exact absurd h3 (by omega)
  | succ d ih =>
    intro p k w hsm hle hne hd hat hend
    obtain ⟨E, hE⟩ : ∃ E, k + (p.txt false).length = E := ⟨_, rfl⟩
    have HE := Lib.hid hE
    rw [hE] at hend
    have HAT := Lib.hid hat
    have HEND := Lib.hid hend
    have HSM := Lib.hid hsm
    have HLE := Lib.hid hle
    have HNE := Lib.hid hne
    have HI := Lib.hid ih
    have i6 : IntKind.i64.wrap (((d + 1 : Nat) : Int) - 1) = (d : Int) := by rw [IntWalk.i64_in _ (by omega)]; omega
    have i7 : ¬ (((d + 1 : Nat) : Int) = 0) := by omega
    obtain ⟨d1, hd1⟩ : ∃ d1, d + 1 = d1 := ⟨_, rfl⟩
    have HD1 := Lib.hid hd1
    rw [hd1] at i6 i7 ⊢
    obtain ⟨W, hW_⟩ : ∃ W_, W_ = w.alloc (.cells #[] 99) := ⟨_, rfl⟩
    have b0 : Blk W w.heap.size 99 #[] := by rw [hW_]; exact Blk.new w _ _
    have z0 : Below w.heap.size w W := by rw [hW_]; exact (Below.refl _ _).alloc (Nat.le_refl _) _
    have HW := Lib.hid hW_
    clear hW_
    have HO0 : Hid (OC W w.heap.size (some ⟨w.heap.size, 0, none⟩) ([] : List Ce).length 0 []) := Lib.hid ⟨b0.ownz (Nat.le_refl _), by simp⟩
    have HZ0 := Lib.hid z0
    clear hsm hle hne hat hend ih hE b0 z0 hd1
    go_enter Try.func163, Try.ntmps163
    go_upto_region 2 with fail
    rw [← HW.out]
    clear HW
    go_wp2_with fail
    go_loopw [1, 9] (fun s1 s9 wr => ∃ (q : Nat) (D : Option Addr) (dd : Nat) (ts : List Ce) (r : Pg), s1 = .int .i64 (q : Int) ∧ s9 = .slice D ts.length dd ∧ q ≤ E ∧ Hid (cmds ts ++ r.enc = p.enc) ∧ Hid (At s q (r.txt (decide (0 < ts.length)))) ∧ Hid (q + (r.txt (decide (0 < ts.length))).length = E) ∧ Hid r.small ∧ Hid (r.nest ≤ d) ∧ Hid (OC wr w.heap.size D ts.length dd ts) ∧ Hid (∀ t ∈ ts, t.e.length ≤ 40) ∧ Hid (Below w.heap.size w wr)) (fun s1 _ _ => E - (intOf s1).toNat)
    case atStart => exact ⟨k, _, 0, [], p, rfl, rfl, by have := HE.out; omega, Lib.hid rfl, HAT, HE, HSM, Lib.hid (by have := HNE.out; omega), HO0, Lib.hid (by simp), HZ0⟩
    case round =>
      obtain ⟨q, D, dd, ts, r, rfl, rfl, hqE, HC, HA, HEq, HS, HN, HO, HR, HZ⟩ := hrel
      clear HO0 HZ0
      have hw := HZ.out.size
      have hEs : E ≤ s.size := by rcases HEND.out with h | h <;> omega
      have htl : ts.length ≤ 80 := by
        have h1 := congrArg List.length HC.out
        have h2 := HLE.out
        rw [List.length_append, cmds_len] at h1; omega
      cases hr : r with
      | done =>
        rw [hr] at HC HEq
        obtain rfl : q = E := by have h := HEq.out; simp [Pg.txt] at h; exact h
        have HF : Hid (ReadP s k p w (.returned (.tuple #[.slice D ts.length dd, .int .i64 (q : Int), .bool true])) wr) := Lib.hid ⟨D, dd, ts, by rw [HE.out], Lib.hid (by have h := HC.out; simpa [Pg.enc] using h), HO.out, HR, HZ.out⟩
        rcases HEND.out with h1 | ⟨h1, h2⟩
        · have i1 : ¬ ((q : Int) < (s.size : Int)) := by omega
          clear HA HS HN hr h1 HC HEq
          go_wp2_with fail
          exact bodyPost_ret (v := .tuple #[.slice D ts.length dd, .int .i64 (q : Int), .bool true]) (by simp [results, Try.results163, go_sem]) rfl HF.out
        · have i1 : (q : Int) < (s.size : Int) := by omega
          have i3 : (0 : Int) ≤ (q : Int) := by omega
          clear HA HS HN hr h1 HC HEq
          go_wp2_with fail
          exact bodyPost_ret (v := .tuple #[.slice D ts.length dd, .int .i64 (q : Int), .bool true]) (by simp [results, Try.results163, go_sem]) rfl HF.out
      | set v e r2 =>
        have hsm := HS.out
        have hnn := HN.out
        rw [hr] at hsm hnn
        have HSV : Hid (v < 4) := Lib.hid hsm.1
        have HSE : Hid (e.low ∧ e.len ≤ 40 ∧ e.dep ≤ 40) := Lib.hid ⟨hsm.2.1, hsm.2.2.1, hsm.2.2.2.1⟩
        have HS2 : Hid r2.small := Lib.hid hsm.2.2.2.2
        have HN2 : Hid (r2.nest ≤ d) := Lib.hid hnn
        rw [hr] at HC
        clear hsm hnn
        by_cases h0 : 0 < ts.length
        · skip
          have hd1 : decide (0 < ts.length) = true := decide_eq_true h0
          have hA := HA.out
          have hQE := HEq.out
          rw [hd1, hr] at hA hQE
          obtain ⟨g1, g2, hA2⟩ := At.head (l := ((48 + (v : Int)) :: 61 :: (e.txt ++ r2.txt true))) hA
          obtain ⟨Q0, hQ0⟩ : ∃ Q0, q + 1 = Q0 := ⟨_, rfl⟩
          rw [hQ0] at hA2
          have a1 : (q : Int) < (s.size : Int) := by omega
          have a3 : (0 : Int) ≤ (q : Int) := by omega
          have a5 : IntKind.i64.wrap ((q : Int) + 1) = (Q0 : Int) := by rw [IntWalk.i64_in _ (by omega)]; omega
          have b0 : (0 : Int) < (ts.length : Int) := by omega
          have hlen : Q0 + (((48 + (v : Int)) :: 61 :: (e.txt ++ r2.txt true)) : List Int).length = E := by
            have h : (Pg.txt true (.set v e r2)).length = 1 + (((48 + (v : Int)) :: 61 :: (e.txt ++ r2.txt true)) : List Int).length := by simp [Pg.txt]; omega
            omega
          obtain ⟨f1, f2, hA3⟩ := hA2.head
          have c1 : (Q0 : Int) < (s.size : Int) := by omega
          have c3 : (0 : Int) ≤ (Q0 : Int) := by omega
          have c4 : ¬ ((s.size : Int) ≤ (Q0 : Int)) := by omega
          obtain ⟨_, _, hA4⟩ := hA3.head
          obtain ⟨hAe, hAr⟩ := hA4.app
          have hv := HSV.out
          have c6 : ¬ (48 + (v : Int) = 119) := by omega
          have c8 : ¬ (48 + (v : Int) = 125) := by omega
          have c7 : IntKind.i64.wrap (48 + (v : Int)) = 48 + (v : Int) := IntWalk.i64_in _ (by omega)
          have c9 : IntKind.i64.wrap (48 + (v : Int) - 48) = (v : Int) := by rw [IntWalk.i64_in _ (by omega)]; omega
          obtain ⟨P, hP⟩ : ∃ P, Q0 + 1 + 1 = P := ⟨_, rfl⟩
          rw [hP] at hAe hAr
          have c5 : IntKind.i64.wrap ((Q0 : Int) + 2) = (P : Int) := by rw [IntWalk.i64_in _ (by omega)]; omega
          obtain ⟨M, hM⟩ : ∃ M, P + e.txt.length = M := ⟨_, rfl⟩
          rw [hM] at hAr
          have HRE : Hid (∀ w, Calls Try.prog 229 #[.string s, .int .i64 (P : Int), .int .i64 40] w (fun e' w' => ∃ A c, e' = .returned (.tuple #[.slice A e.len c, .int .i64 (M : Int), .bool true]) ∧ Own w' w.heap.size 118 2 A e.len c (cells2 e.enc) ∧ Below w.heap.size w w')) := Lib.hid (fun w => by have h := readExpr_any s hs e P 40 w HSE.out.1 (by have := HSE.out.2.1; omega) hAe HSE.out.2.2 (by omega); unfold ReadE at h; rw [hM] at h; exact h)
          have HAR := Lib.hid hAr
          have HML : Hid (M + (r2.txt true).length = E) := Lib.hid (by simp at hlen; omega)
          have hMq : q < M := by omega
          have hME : M ≤ E := by have := HML.out; omega
          have hel : e.len ≤ 40 := HSE.out.2.1
          clear hA hQE g1 hQ0 hd1 hA2 hA3 hA4 hAe hAr hlen hP hM f1 HA HEq HS hr h0
          go_wp2_with fail
          refine (HRE.out wr).mono ?_
          rintro e1 w1 ⟨A, ac, rfl, o1, z1⟩
          have HOA := Lib.hid ((HO.out.below z1).alloc (.cells #[.int .i64 0, .int .i64 (v : Int), .int .i64 0, .slice A e.len ac] 99))
          have HEA := Lib.hid ((o1.mono hw).alloc (.cells #[.int .i64 0, .int .i64 (v : Int), .int .i64 0, .slice A e.len ac] 99))
          have HZ1 := Lib.hid (HZ.out.trans (z1.mono hw))
          have hw1 := HZ1.out.size
          clear o1 z1 HRE HO HZ
          go_wp2_with (at_builtin; refine wpList_append_Own rfl (.tmp 99) (.tmp 107) rfl elCm (lo := w.heap.size) rfl HOA.out.1 rfl (rd_cmd w1 0 (v : Int) 0 A e.len ac) (by intro u hu; simp at hu; rcases hu with rfl | rfl | rfl | rfl <;> rfl) (by omega) (by simp only [maxLen]; omega) (by simp; omega) ?_; intro A5 c5 w5 o5 hg5 _; have HO5 := Lib.hid o5; have HG5 := Lib.hid hg5)
          go_roundw
          case rel =>
            have hoc := OC.pushR HOA.out (ex_len e) HEA.out HO5.out HG5.out
            refine ⟨M, A5, c5, ts ++ [⟨0, (v : Int), 0, A, ac, e.enc⟩], r2, rfl, by rw [List.length_append]; rfl, hME, Lib.hid ?_, Lib.hid ?_, Lib.hid ?_, HS2, HN2, Lib.hid (by rw [List.length_append]; exact hoc), Lib.hid (fun t ht => ?_), Lib.hid (HOA.out.1.below_of (HZ1.out.alloc (by omega) _) HG5.out (by simp; omega))⟩
            · have h := HC.out
              rw [cmds_app, ← h]; simp [Pg.enc, cmds, Ce.cmd]
            · rw [decide_eq_true (by simp)]; exact HAR.out
            · rw [decide_eq_true (by simp)]; exact HML.out
            · rcases List.mem_append.1 ht with h | h
              · exact HR.out t h
              · rw [List.mem_singleton.1 h]; show e.enc.length ≤ 40; rw [ex_len]; exact hel
          case measure => (simp [intOf] <;> omega)
        · skip
          have hd1 : decide (0 < ts.length) = false := decide_eq_false h0
          have hA2 := HA.out
          have hlen := HEq.out
          rw [hd1, hr] at hA2 hlen
          replace hA2 : At s q ((48 + (v : Int)) :: 61 :: (e.txt ++ r2.txt true)) := hA2
          replace hlen : q + (((48 + (v : Int)) :: 61 :: (e.txt ++ r2.txt true)) : List Int).length = E := hlen
          have b0 : ¬ ((0 : Int) < (ts.length : Int)) := by omega
          obtain ⟨f1, f2, hA3⟩ := hA2.head
          have c1 : (q : Int) < (s.size : Int) := by omega
          have c3 : (0 : Int) ≤ (q : Int) := by omega
          have c4 : ¬ ((s.size : Int) ≤ (q : Int)) := by omega
          obtain ⟨_, _, hA4⟩ := hA3.head
          obtain ⟨hAe, hAr⟩ := hA4.app
          have hv := HSV.out
          have c6 : ¬ (48 + (v : Int) = 119) := by omega
          have c8 : ¬ (48 + (v : Int) = 125) := by omega
          have c7 : IntKind.i64.wrap (48 + (v : Int)) = 48 + (v : Int) := IntWalk.i64_in _ (by omega)
          have c9 : IntKind.i64.wrap (48 + (v : Int) - 48) = (v : Int) := by rw [IntWalk.i64_in _ (by omega)]; omega
          obtain ⟨P, hP⟩ : ∃ P, q + 1 + 1 = P := ⟨_, rfl⟩
          rw [hP] at hAe hAr
          have c5 : IntKind.i64.wrap ((q : Int) + 2) = (P : Int) := by rw [IntWalk.i64_in _ (by omega)]; omega
          obtain ⟨M, hM⟩ : ∃ M, P + e.txt.length = M := ⟨_, rfl⟩
          rw [hM] at hAr
          have HRE : Hid (∀ w, Calls Try.prog 229 #[.string s, .int .i64 (P : Int), .int .i64 40] w (fun e' w' => ∃ A c, e' = .returned (.tuple #[.slice A e.len c, .int .i64 (M : Int), .bool true]) ∧ Own w' w.heap.size 118 2 A e.len c (cells2 e.enc) ∧ Below w.heap.size w w')) := Lib.hid (fun w => by have h := readExpr_any s hs e P 40 w HSE.out.1 (by have := HSE.out.2.1; omega) hAe HSE.out.2.2 (by omega); unfold ReadE at h; rw [hM] at h; exact h)
          have HAR := Lib.hid hAr
          have HML : Hid (M + (r2.txt true).length = E) := Lib.hid (by simp at hlen; omega)
          have hMq : q < M := by omega
          have hME : M ≤ E := by have := HML.out; omega
          have hel : e.len ≤ 40 := HSE.out.2.1
          clear hd1 hA2 hA3 hA4 hAe hAr hlen hP hM f1 HA HEq HS hr h0
          go_wp2_with fail
          refine (HRE.out wr).mono ?_
          rintro e1 w1 ⟨A, ac, rfl, o1, z1⟩
          have HOA := Lib.hid ((HO.out.below z1).alloc (.cells #[.int .i64 0, .int .i64 (v : Int), .int .i64 0, .slice A e.len ac] 99))
          have HEA := Lib.hid ((o1.mono hw).alloc (.cells #[.int .i64 0, .int .i64 (v : Int), .int .i64 0, .slice A e.len ac] 99))
          have HZ1 := Lib.hid (HZ.out.trans (z1.mono hw))
          have hw1 := HZ1.out.size
          clear o1 z1 HRE HO HZ
          go_wp2_with (at_builtin; refine wpList_append_Own rfl (.tmp 99) (.tmp 107) rfl elCm (lo := w.heap.size) rfl HOA.out.1 rfl (rd_cmd w1 0 (v : Int) 0 A e.len ac) (by intro u hu; simp at hu; rcases hu with rfl | rfl | rfl | rfl <;> rfl) (by omega) (by simp only [maxLen]; omega) (by simp; omega) ?_; intro A5 c5 w5 o5 hg5 _; have HO5 := Lib.hid o5; have HG5 := Lib.hid hg5)
          go_roundw
          case rel =>
            have hoc := OC.pushR HOA.out (ex_len e) HEA.out HO5.out HG5.out
            refine ⟨M, A5, c5, ts ++ [⟨0, (v : Int), 0, A, ac, e.enc⟩], r2, rfl, by rw [List.length_append]; rfl, hME, Lib.hid ?_, Lib.hid ?_, Lib.hid ?_, HS2, HN2, Lib.hid (by rw [List.length_append]; exact hoc), Lib.hid (fun t ht => ?_), Lib.hid (HOA.out.1.below_of (HZ1.out.alloc (by omega) _) HG5.out (by simp; omega))⟩
            · have h := HC.out
              rw [cmds_app, ← h]; simp [Pg.enc, cmds, Ce.cmd]
            · rw [decide_eq_true (by simp)]; exact HAR.out
            · rw [decide_eq_true (by simp)]; exact HML.out
            · rcases List.mem_append.1 ht with h | h
              · exact HR.out t h
              · rw [List.mem_singleton.1 h]; show e.enc.length ≤ 40; rw [ex_len]; exact hel
          case measure => (simp [intOf] <;> omega)
      | wh e b r2 =>
        have hsm := HS.out
        have hnn := HN.out
        rw [hr] at hsm hnn
        have hnn2 : max (b.nest + 1) r2.nest ≤ d := hnn
        have HSE : Hid (e.low ∧ e.len ≤ 40 ∧ e.dep ≤ 40) := Lib.hid ⟨hsm.1, hsm.2.1, hsm.2.2.1⟩
        have HSB : Hid b.small := Lib.hid hsm.2.2.2.1
        have HS2 : Hid r2.small := Lib.hid hsm.2.2.2.2
        have HN2 : Hid (r2.nest ≤ d) := Lib.hid (by omega)
        have HBN : Hid (b.nest < d) := Lib.hid (by omega)
        rw [hr] at HC
        have HBL : Hid (b.enc.length ≤ 80) := Lib.hid (by
          have h1 := congrArg List.length HC.out
          have h2 := HLE.out
          simp only [List.length_append, Pg.enc, List.length_cons] at h1
          omega)
        clear hsm hnn hnn2
        by_cases h0 : 0 < ts.length
        · skip
          have hd1 : decide (0 < ts.length) = true := decide_eq_true h0
          have hA := HA.out
          have hQE := HEq.out
          rw [hd1, hr] at hA hQE
          obtain ⟨g1, g2, hA2⟩ := At.head (l := (119 :: (e.txt ++ (123 :: (b.txt false ++ (125 :: r2.txt true)))))) hA
          obtain ⟨Q0, hQ0⟩ : ∃ Q0, q + 1 = Q0 := ⟨_, rfl⟩
          rw [hQ0] at hA2
          have a1 : (q : Int) < (s.size : Int) := by omega
          have a3 : (0 : Int) ≤ (q : Int) := by omega
          have a5 : IntKind.i64.wrap ((q : Int) + 1) = (Q0 : Int) := by rw [IntWalk.i64_in _ (by omega)]; omega
          have b0 : (0 : Int) < (ts.length : Int) := by omega
          have hlen : Q0 + ((119 :: (e.txt ++ (123 :: (b.txt false ++ (125 :: r2.txt true))))) : List Int).length = E := by
            have h : (Pg.txt true (.wh e b r2)).length = 1 + ((119 :: (e.txt ++ (123 :: (b.txt false ++ (125 :: r2.txt true))))) : List Int).length := by simp [Pg.txt]; omega
            omega
          obtain ⟨f1, f2, hA3⟩ := hA2.head
          have c1 : (Q0 : Int) < (s.size : Int) := by omega
          have c3 : (0 : Int) ≤ (Q0 : Int) := by omega
          have c4 : ¬ ((s.size : Int) ≤ (Q0 : Int)) := by omega
          obtain ⟨hAe, hA4⟩ := hA3.app
          obtain ⟨_, _, hA5⟩ := hA4.head
          obtain ⟨hAb, hA6⟩ := hA5.app
          obtain ⟨d1, d2, hAr⟩ := hA6.head
          obtain ⟨P, hP⟩ : ∃ P, Q0 + 1 = P := ⟨_, rfl⟩
          rw [hP] at hAe hAb d1 d2 hAr
          have c5 : IntKind.i64.wrap ((Q0 : Int) + 1) = (P : Int) := by rw [IntWalk.i64_in _ (by omega)]; omega
          obtain ⟨M, hM⟩ : ∃ M, P + e.txt.length = M := ⟨_, rfl⟩
          rw [hM] at hAb d1 d2 hAr
          have HRE : Hid (∀ w, Calls Try.prog 229 #[.string s, .int .i64 (P : Int), .int .i64 40] w (fun e' w' => ∃ A c, e' = .returned (.tuple #[.slice A e.len c, .int .i64 (M : Int), .bool true]) ∧ Own w' w.heap.size 118 2 A e.len c (cells2 e.enc) ∧ Below w.heap.size w w')) := Lib.hid (fun w => by have h := readExpr_any s hs e P 40 w HSE.out.1 (by have := HSE.out.2.1; omega) hAe HSE.out.2.2 (by omega); unfold ReadE at h; rw [hM] at h; exact h)
          obtain ⟨M1, hM1⟩ : ∃ M1, M + 1 = M1 := ⟨_, rfl⟩
          rw [hM1] at hAb d1 d2 hAr
          obtain ⟨L, hL⟩ : ∃ L, M1 + (b.txt false).length = L := ⟨_, rfl⟩
          rw [hL] at d1 d2 hAr
          obtain ⟨L1, hL1⟩ : ∃ L1, L + 1 = L1 := ⟨_, rfl⟩
          rw [hL1] at hAr
          have c7 : IntKind.i64.wrap ((M : Int) + 1) = (M1 : Int) := by rw [IntWalk.i64_in _ (by omega)]; omega
          have c8 : IntKind.i64.wrap ((L : Int) + 1) = (L1 : Int) := by rw [IntWalk.i64_in _ (by omega)]; omega
          have HRB : Hid (∀ w, Calls Try.prog 163 #[.string s, .int .i64 (M1 : Int), .int .i64 (d : Int)] w (fun e w' => ∃ A c us, e = .returned (.tuple #[.slice A (List.length us) c, .int .i64 (L : Int), .bool true]) ∧ Hid (cmds us = b.enc) ∧ OC w' w.heap.size A us.length c us ∧ Hid (∀ t ∈ us, t.e.length ≤ 40) ∧ Below w.heap.size w w')) := Lib.hid (fun w => by have h := HI.out b M1 w HSB.out HBL.out HBN.out (by have := HD1.out; omega) hAb (.inr ⟨by omega, by rw [hL]; exact d2⟩); unfold ReadP at h; rw [hL] at h; exact h)
          have HAR := Lib.hid hAr
          have HML : Hid (L1 + (r2.txt true).length = E) := Lib.hid (by simp at hlen; omega)
          have hMq : q < L1 := by omega
          have hME : L1 ≤ E := by have := HML.out; omega
          have hel : e.len ≤ 40 := HSE.out.2.1
          have hbl := HBL.out
          clear hA hQE g1 hQ0 hd1 hA2 hA3 hA4 hA5 hA6 hAe hAb hAr hlen hP hM hM1 hL hL1 d1 d2 f1 HA HEq HS hr h0
          go_wp2_with fail
          refine (HRE.out wr).mono ?_
          rintro e1 w1 ⟨A, ac, rfl, o1, z1⟩
          have HO1 := Lib.hid (HO.out.below z1)
          have HE1 := Lib.hid (o1.mono hw)
          have HZ1 := Lib.hid (HZ.out.trans (z1.mono hw))
          have hw1 := HZ1.out.size
          clear o1 z1 HRE HO HZ
          go_wp2_with fail
          refine (HRB.out w1).mono ?_
          rintro e2 w2 ⟨B, bc, us, rfl, HUC, ob, HUR, z2⟩
          have hul : us.length ≤ 80 := by have h := congrArg List.length HUC.out; rw [cmds_len] at h; omega
          have HOA := Lib.hid ((HO1.out.below z2).alloc (.cells #[.int .i64 1, .int .i64 0, .int .i64 (us.length : Int), .slice A e.len ac] 99))
          have HEA := Lib.hid ((HE1.out.below z2).alloc (.cells #[.int .i64 1, .int .i64 0, .int .i64 (us.length : Int), .slice A e.len ac] 99))
          have HBA := Lib.hid ((ob.mono hw1).alloc (.cells #[.int .i64 1, .int .i64 0, .int .i64 (us.length : Int), .slice A e.len ac] 99))
          have HNE : Hid (∀ g, blk D = some g → blk B ≠ some g) := Lib.hid (fun g hg hb => by have h1 := ob.1.blk_ge g hb; have h2 := HO1.out.1.blk_lt g hg; omega)
          have HZ2 := Lib.hid (HZ1.out.trans (z2.mono hw1))
          have hw2 := HZ2.out.size
          clear ob z2 HRB HO1 HE1 HZ1
          go_upto_region 17 with (at_builtin; refine wpList_append_Own rfl (.tmp 76) (.tmp 81) rfl elCm (lo := w.heap.size) rfl HOA.out.1 rfl (rd_cmd w2 1 0 (us.length : Int) A e.len ac) (by intro u hu; simp at hu; rcases hu with rfl | rfl | rfl | rfl <;> rfl) (by omega) (by simp only [maxLen]; omega) (by simp; omega) ?_; intro A5 c5 w5 o5 hg5 _)
          have HO5 := Lib.hid (OC.pushR HOA.out (ex_len e) HEA.out o5 hg5)
          have HB5 := Lib.hid (HBA.out.grownN HOA.out.1 hg5 HNE.out)
          have HZ5 := Lib.hid (HOA.out.1.below_of (HZ2.out.alloc (by omega) _) hg5 (by simp; omega))
          have hw5 := HZ5.out.size
          clear o5 hg5 HOA HEA HBA HZ2
          go_wp2_with (at_builtin; refine wpList_append_Own rfl (.tmp 83) (.tmp 84) rfl elCm (lo := w.heap.size) rfl HO5.out.1 rfl HB5.out.1.rd (Ce.one us) (by omega) (by simp only [maxLen]; omega) hw5 ?_; intro A6 c6 w6 o6 hg6 _; have HO6 := Lib.hid o6; have HG6 := Lib.hid hg6)
          go_roundw
          case rel =>
            have hoc := OC.app HO5.out HB5.out.2 HO6.out HG6.out
            have hll : (ts ++ [(⟨1, 0, (us.length : Int), A, ac, e.enc⟩ : Ce)] ++ us).length = ts.length + 1 + us.length := by simp; omega
            refine ⟨L1, A6, c6, ts ++ [⟨1, 0, (us.length : Int), A, ac, e.enc⟩] ++ us, r2, rfl, by rw [hll], hME, Lib.hid ?_, Lib.hid ?_, Lib.hid ?_, HS2, HN2, Lib.hid (by rw [hll]; exact hoc), Lib.hid (fun t ht => ?_), Lib.hid (HO5.out.1.below_of HZ5.out HG6.out hw5)⟩
            · have h := HC.out
              rw [cmds_app, cmds_app, HUC.out, ← h, ← cmds_len us, HUC.out]; simp [Pg.enc, cmds, Ce.cmd]
            · rw [decide_eq_true (by simp; omega)]; exact HAR.out
            · rw [decide_eq_true (by simp; omega)]; exact HML.out
            · rcases List.mem_append.1 ht with h | h
              · rcases List.mem_append.1 h with h | h
                · exact HR.out t h
                · rw [List.mem_singleton.1 h]; show e.enc.length ≤ 40; rw [ex_len]; exact hel
              · exact HUR.out t h
          case measure => (simp [intOf] <;> omega)
        · skip
          have hd1 : decide (0 < ts.length) = false := decide_eq_false h0
          have hA2 := HA.out
          have hlen := HEq.out
          rw [hd1, hr] at hA2 hlen
          replace hA2 : At s q (119 :: (e.txt ++ (123 :: (b.txt false ++ (125 :: r2.txt true))))) := hA2
          replace hlen : q + ((119 :: (e.txt ++ (123 :: (b.txt false ++ (125 :: r2.txt true))))) : List Int).length = E := hlen
          have b0 : ¬ ((0 : Int) < (ts.length : Int)) := by omega
          obtain ⟨f1, f2, hA3⟩ := hA2.head
          have c1 : (q : Int) < (s.size : Int) := by omega
          have c3 : (0 : Int) ≤ (q : Int) := by omega
          have c4 : ¬ ((s.size : Int) ≤ (q : Int)) := by omega
          obtain ⟨hAe, hA4⟩ := hA3.app
          obtain ⟨_, _, hA5⟩ := hA4.head
          obtain ⟨hAb, hA6⟩ := hA5.app
          obtain ⟨d1, d2, hAr⟩ := hA6.head
          obtain ⟨P, hP⟩ : ∃ P, q + 1 = P := ⟨_, rfl⟩
          rw [hP] at hAe hAb d1 d2 hAr
          have c5 : IntKind.i64.wrap ((q : Int) + 1) = (P : Int) := by rw [IntWalk.i64_in _ (by omega)]; omega
          obtain ⟨M, hM⟩ : ∃ M, P + e.txt.length = M := ⟨_, rfl⟩
          rw [hM] at hAb d1 d2 hAr
          have HRE : Hid (∀ w, Calls Try.prog 229 #[.string s, .int .i64 (P : Int), .int .i64 40] w (fun e' w' => ∃ A c, e' = .returned (.tuple #[.slice A e.len c, .int .i64 (M : Int), .bool true]) ∧ Own w' w.heap.size 118 2 A e.len c (cells2 e.enc) ∧ Below w.heap.size w w')) := Lib.hid (fun w => by have h := readExpr_any s hs e P 40 w HSE.out.1 (by have := HSE.out.2.1; omega) hAe HSE.out.2.2 (by omega); unfold ReadE at h; rw [hM] at h; exact h)
          obtain ⟨M1, hM1⟩ : ∃ M1, M + 1 = M1 := ⟨_, rfl⟩
          rw [hM1] at hAb d1 d2 hAr
          obtain ⟨L, hL⟩ : ∃ L, M1 + (b.txt false).length = L := ⟨_, rfl⟩
          rw [hL] at d1 d2 hAr
          obtain ⟨L1, hL1⟩ : ∃ L1, L + 1 = L1 := ⟨_, rfl⟩
          rw [hL1] at hAr
          have c7 : IntKind.i64.wrap ((M : Int) + 1) = (M1 : Int) := by rw [IntWalk.i64_in _ (by omega)]; omega
          have c8 : IntKind.i64.wrap ((L : Int) + 1) = (L1 : Int) := by rw [IntWalk.i64_in _ (by omega)]; omega
          have HRB : Hid (∀ w, Calls Try.prog 163 #[.string s, .int .i64 (M1 : Int), .int .i64 (d : Int)] w (fun e w' => ∃ A c us, e = .returned (.tuple #[.slice A (List.length us) c, .int .i64 (L : Int), .bool true]) ∧ Hid (cmds us = b.enc) ∧ OC w' w.heap.size A us.length c us ∧ Hid (∀ t ∈ us, t.e.length ≤ 40) ∧ Below w.heap.size w w')) := Lib.hid (fun w => by have h := HI.out b M1 w HSB.out HBL.out HBN.out (by have := HD1.out; omega) hAb (.inr ⟨by omega, by rw [hL]; exact d2⟩); unfold ReadP at h; rw [hL] at h; exact h)
          have HAR := Lib.hid hAr
          have HML : Hid (L1 + (r2.txt true).length = E) := Lib.hid (by simp at hlen; omega)
          have hMq : q < L1 := by omega
          have hME : L1 ≤ E := by have := HML.out; omega
          have hel : e.len ≤ 40 := HSE.out.2.1
          have hbl := HBL.out
          clear hd1 hA2 hA3 hA4 hA5 hA6 hAe hAb hAr hlen hP hM hM1 hL hL1 d1 d2 f1 HA HEq HS hr h0
          go_wp2_with fail
          refine (HRE.out wr).mono ?_
          rintro e1 w1 ⟨A, ac, rfl, o1, z1⟩
          have HO1 := Lib.hid (HO.out.below z1)
          have HE1 := Lib.hid (o1.mono hw)
          have HZ1 := Lib.hid (HZ.out.trans (z1.mono hw))
          have hw1 := HZ1.out.size
          clear o1 z1 HRE HO HZ
          go_wp2_with fail
          refine (HRB.out w1).mono ?_
          rintro e2 w2 ⟨B, bc, us, rfl, HUC, ob, HUR, z2⟩
          have hul : us.length ≤ 80 := by have h := congrArg List.length HUC.out; rw [cmds_len] at h; omega
          have HOA := Lib.hid ((HO1.out.below z2).alloc (.cells #[.int .i64 1, .int .i64 0, .int .i64 (us.length : Int), .slice A e.len ac] 99))
          have HEA := Lib.hid ((HE1.out.below z2).alloc (.cells #[.int .i64 1, .int .i64 0, .int .i64 (us.length : Int), .slice A e.len ac] 99))
          have HBA := Lib.hid ((ob.mono hw1).alloc (.cells #[.int .i64 1, .int .i64 0, .int .i64 (us.length : Int), .slice A e.len ac] 99))
          have HNE : Hid (∀ g, blk D = some g → blk B ≠ some g) := Lib.hid (fun g hg hb => by have h1 := ob.1.blk_ge g hb; have h2 := HO1.out.1.blk_lt g hg; omega)
          have HZ2 := Lib.hid (HZ1.out.trans (z2.mono hw1))
          have hw2 := HZ2.out.size
          clear ob z2 HRB HO1 HE1 HZ1
          go_upto_region 17 with (at_builtin; refine wpList_append_Own rfl (.tmp 76) (.tmp 81) rfl elCm (lo := w.heap.size) rfl HOA.out.1 rfl (rd_cmd w2 1 0 (us.length : Int) A e.len ac) (by intro u hu; simp at hu; rcases hu with rfl | rfl | rfl | rfl <;> rfl) (by omega) (by simp only [maxLen]; omega) (by simp; omega) ?_; intro A5 c5 w5 o5 hg5 _)
          have HO5 := Lib.hid (OC.pushR HOA.out (ex_len e) HEA.out o5 hg5)
          have HB5 := Lib.hid (HBA.out.grownN HOA.out.1 hg5 HNE.out)
          have HZ5 := Lib.hid (HOA.out.1.below_of (HZ2.out.alloc (by omega) _) hg5 (by simp; omega))
          have hw5 := HZ5.out.size
          clear o5 hg5 HOA HEA HBA HZ2
          go_wp2_with (at_builtin; refine wpList_append_Own rfl (.tmp 83) (.tmp 84) rfl elCm (lo := w.heap.size) rfl HO5.out.1 rfl HB5.out.1.rd (Ce.one us) (by omega) (by simp only [maxLen]; omega) hw5 ?_; intro A6 c6 w6 o6 hg6 _; have HO6 := Lib.hid o6; have HG6 := Lib.hid hg6)
          go_roundw
          case rel =>
            have hoc := OC.app HO5.out HB5.out.2 HO6.out HG6.out
            have hll : (ts ++ [(⟨1, 0, (us.length : Int), A, ac, e.enc⟩ : Ce)] ++ us).length = ts.length + 1 + us.length := by simp; omega
            refine ⟨L1, A6, c6, ts ++ [⟨1, 0, (us.length : Int), A, ac, e.enc⟩] ++ us, r2, rfl, by rw [hll], hME, Lib.hid ?_, Lib.hid ?_, Lib.hid ?_, HS2, HN2, Lib.hid (by rw [hll]; exact hoc), Lib.hid (fun t ht => ?_), Lib.hid (HO5.out.1.below_of HZ5.out HG6.out hw5)⟩
            · have h := HC.out
              rw [cmds_app, cmds_app, HUC.out, ← h, ← cmds_len us, HUC.out]; simp [Pg.enc, cmds, Ce.cmd]
            · rw [decide_eq_true (by simp; omega)]; exact HAR.out
            · rw [decide_eq_true (by simp; omega)]; exact HML.out
            · rcases List.mem_append.1 ht with h | h
              · rcases List.mem_append.1 h with h | h
                · exact HR.out t h
                · rw [List.mem_singleton.1 h]; show e.enc.length ≤ 40; rw [ex_len]; exact hel
              · exact HUR.out t h
          case measure => (simp [intOf] <;> omega)
end Go.Proofs.Ytfheepjfpgiaoaa
