/-
  The reference's draw of commands: l22DrawDeep.
-/
import Derived.Test.YtfheepjfpgiaoaaDrawPg
import Derived.Deep.CutBlock
namespace Go.Proofs.Ytfheepjfpgiaoaa
open Go.RowKit

def Pg.app : Pg → Pg → Pg
  | .done, q => q
  | .set v e r, q => .set v e (r.app q)
  | .wh e b r, q => .wh e b (r.app q)
theorem app_enc : ∀ p q : Pg, (p.app q).enc = p.enc ++ q.enc
  | .done, q => rfl
  | .set v e r, q => by simp [Pg.app, Pg.enc, app_enc r q]
  | .wh e b r, q => by simp [Pg.app, Pg.enc, app_enc r q]
theorem app_low : ∀ {p q : Pg}, p.low → q.low → (p.app q).low
  | .done, _q, _, h => h
  | .set _v _e _r, _q, h, k => ⟨h.1, h.2.1, app_low h.2.2 k⟩
  | .wh _e _b _r, _q, h, k => ⟨h.1, h.2.1, app_low h.2.2 k⟩
theorem app_ok : ∀ {p q : Pg}, p.ok → q.ok → (p.app q).ok
  | .done, _q, _, h => h
  | .set _v _e _r, _q, h, k => ⟨h.1, h.2.1, app_ok h.2.2 k⟩
  | .wh _e _b _r, _q, h, k => ⟨h.1, h.2.1, app_ok h.2.2 k⟩
/-- A source, what it reads from, and all else as it was. -/
structure DS (w0 : World) (b : Nat) (A : Option Addr) (n c : Nat) (xs : List Int) (T : Nat) (w : World) : Prop where
  bytes : SBy w A n xs
  src : Src b A n c T w
  kb : Kb b w0 w
section
variable {w0 w w' : World} {b : Nat} {A : Option Addr} {n c : Nat} {xs : List Int} {T T' : Nat}
theorem DS.lt (h : DS w0 b A n c xs T w) : b < w.heap.size := by obtain ⟨_, _, _, _, _, k⟩ := h.src; exact k.lt
theorem DS.step (h : DS w0 b A n c xs T w) (k : Kb b w w') (s : Src b A n c T' w') (hA : ∀ k, blk A = some k → k ≠ b) : DS w0 b A n c xs T' w' := ⟨h.bytes.kb k hA, s, h.kb.trans k⟩
theorem DS.below (h : DS w0 b A n c xs T w) (z : Below w.heap.size w w') : DS w0 b A n c xs T w' := ⟨h.bytes.below z, h.src.below z, h.kb.trans (Kb.of_below z)⟩
theorem DS.alloc (h : DS w0 b A n c xs T w) (o : Obj) : DS w0 b A n c xs T (w.alloc o) := h.below ((Below.refl _ _).alloc (Nat.le_refl _) _)
theorem DS.grown {lo s n0 c0 : Nat} {e : TypeId} {E : Option Addr} {cs : List Value} (h : DS w0 b A n c xs T w) (ho : Own w lo e s E n0 c0 cs) (hlo : w0.heap.size ≤ lo) (hb : b < lo) (hA : ∀ k, blk A = some k → k ≠ b) (h0 : SBy w0 A n xs) (hg : w.grownBy w' (blk E)) : DS w0 b A n c xs T w' :=
  ⟨h0.kb (h.kb.grown ho hlo hg) hA, h.src.more ho hb hg, h.kb.grown ho hlo hg⟩
theorem DS.le (h : DS w0 b A n c xs T w) (ht : T ≤ T') : DS w0 b A n c xs T' w := ⟨h.bytes, h.src.le ht, h.kb⟩
theorem OC.kb {lo m d : Nat} {E : Option Addr} {ts : List Ce} (h : OC w lo E m d ts) (k : Kb b w w') (hb : b < lo) : OC w' lo E m d ts := ⟨k.own' h.1 hb, fun t ht => k.own' (h.2 t ht) hb⟩
end
theorem OC.grownN {w w' : World} {lo m d n' c' : Nat} {E A' : Option Addr} {ts : List Ce} {cs : List Value} (h : OC w lo E m d ts) (ho : Own w lo 99 4 A' n' c' cs) (hg : w.grownBy w' (blk A')) (hne : ∀ g, blk A' = some g → blk E ≠ some g) : OC w' lo E m d ts :=
  ⟨h.1.grown hg hne, fun t ht => (h.2 t ht).grown_apt ho hg (by decide)⟩
/-- A program was drawn. -/
def DrewP (b : Nat) (A : Option Addr) (n c T M : Nat) (w : World) (e : Ending) (w' : World) : Prop :=
  ∃ D d ts p, e = .returned (.slice D (List.length ts) d) ∧ Hid (cmds ts = Pg.enc p) ∧ OC w' w.heap.size D ts.length d ts ∧ ts.length ≤ M ∧ Hid (∀ t ∈ ts, t.e.length ≤ 40) ∧ Hid p.low ∧ Hid p.ok ∧ Src b A n c T w' ∧ Kb b w w'
/-- How many commands, and how many choices, a command takes at most. -/
def unP : Nat → Nat
  | 0 => 1
  | d + 1 => 2 + 2 * unP d
def chP : Nat → Nat
  | 0 => 34
  | d + 1 => 34 + 2 * chP d
theorem unP_pos (d : Nat) : 1 ≤ unP d := by cases d <;> simp only [unP] <;> omega
theorem chP_pos (d : Nat) : 34 ≤ chP d := by cases d <;> simp only [chP] <;> omega
theorem unP_up (d : Nat) (h : d ≤ 2) : unP d ≤ 10 := by
  have : d = 0 ∨ d = 1 ∨ d = 2 := by omega
  rcases this with rfl | rfl | rfl <;> decide
theorem chP_up (d : Nat) (h : d ≤ 2) : chP d ≤ 238 := by
  have : d = 0 ∨ d = 1 ∨ d = 2 := by omega
  rcases this with rfl | rfl | rfl <;> decide
theorem set_pg {v : Nat} {ex : Ex} (hv : v < 4) (h : ex.low) (hl : ex.len ≤ 40) : (Pg.set v ex .done).low ∧ (Pg.set v ex .done).ok := ⟨⟨hv, h, trivial⟩, ⟨by omega, ⟨low_ok h, hl⟩, trivial⟩⟩
theorem wh_pg {v : Nat} {p : Pg} (hv : v < 4) (h : p.low) (k : p.ok) : (Pg.wh (.var v) p .done).low ∧ (Pg.wh (.var v) p .done).ok := ⟨⟨hv, h, trivial⟩, ⟨⟨low_ok (e := .var v) hv, by show 1 ≤ 40; omega⟩, k, trivial⟩⟩
set_option maxRecDepth 100000 in
set_option maxHeartbeats 16000000 in
theorem drawDeep22_any (b : Nat) (A : Option Addr) (n c : Nat) (xs : List Int) (hn : n ≤ 9223372036854775807) (hA : ∀ k, blk A = some k → k ≠ b) : ∀ (d M T : Nat) (w : World), d ≤ 2 → M ≤ 4 → SBy w A n xs → Src b A n c T w → b < w.heap.size → T + M * chP d ≤ 1000000 →
    Calls Try.prog 164 #[.pointer (some ⟨b, 0, none⟩), .int .i64 (M : Int), .int .i64 (d : Int)] w (DrewP b A n c (T + M * chP d) (M * unP d) w) := by
  intro d
  induction d using Nat.strongRecOn with
  | _ d ih =>
  intro M T w hd hM hx hs hb hT
  have HX := Lib.hid hx
  have HA := Lib.hid hA
  have HI : Hid (∀ (d' m T : Nat) (w : World), d' + 1 = d → m ≤ 2 → SBy w A n xs → Src b A n c T w → b < w.heap.size → T + 2 * chP d' ≤ 1000000 → Calls Try.prog 164 #[.pointer (some ⟨b, 0, none⟩), .int .i64 (m : Int), .int .i64 (d' : Int)] w (DrewP b A n c (T + m * chP d') (m * unP d') w)) :=
    Lib.hid (fun d' m T w h1 h2 h3 h4 h5 h6 => ih d' (by omega) m T w (by omega) (by omega) h3 h4 h5 (by
      have : m * chP d' ≤ 2 * chP d' := Nat.mul_le_mul_right _ h2
      omega))
  have HC0 : Hid (0 < d → ∃ d', d' + 1 = d ∧ chP d = 34 + 2 * chP d' ∧ unP d = 2 + 2 * unP d') := Lib.hid (fun h => ⟨d - 1, by omega, by rw [show d = (d - 1) + 1 by omega]; rfl, by rw [show d = (d - 1) + 1 by omega]; rfl⟩)
  obtain ⟨C, hC⟩ : ∃ C, chP d = C := ⟨_, rfl⟩
  obtain ⟨U, hU⟩ : ∃ U, unP d = U := ⟨_, rfl⟩
  have hC34 : 34 ≤ C := by rw [← hC]; exact chP_pos d
  have hC238 : C ≤ 238 := by rw [← hC]; exact chP_up d hd
  have hU1 : 1 ≤ U := by rw [← hU]; exact unP_pos d
  have hU10 : U ≤ 10 := by rw [← hU]; exact unP_up d hd
  rw [hC, hU] at HC0 ⊢
  rw [hC] at hT
  have HTC := Lib.hid hT
  have HMU : Hid (M * U ≤ 40) := Lib.hid (Nat.mul_le_mul (show M ≤ 4 from hM) hU10)
  obtain ⟨W, hW_⟩ : ∃ W_, W_ = w.alloc (.cells #[] 99) := ⟨_, rfl⟩
  have b0 : Blk W w.heap.size 99 #[] := by rw [hW_]; exact Blk.new w _ _
  have z0 : Below w.heap.size w W := by rw [hW_]; exact (Below.refl _ _).alloc (Nat.le_refl _) _
  have HW := Lib.hid hW_
  clear hW_
  have HO0 : Hid (OC W w.heap.size (some ⟨w.heap.size, 0, none⟩) ([] : List Ce).length 0 []) := Lib.hid ⟨b0.ownz (Nat.le_refl _), by simp⟩
  have HD0 : Hid (DS w b A n c xs T W) := Lib.hid ⟨hx.below z0, hs.below z0, Kb.of_below z0⟩
  clear hx hA hs ih z0 b0 hC hU hT
  go_enter Try.func164, Try.ntmps164
  go_upto_region 2 with fail
  rw [← HW.out]
  clear HW
  go_wp2_with fail
  go_loopw [1, 7] (fun s1 s7 wr => ∃ (q : Nat) (D : Option Addr) (dd : Nat) (ts : List Ce) (p : Pg) (Tq : Nat), q ≤ M ∧ s1 = .int .i64 (q : Int) ∧ s7 = .slice D ts.length dd ∧ Hid (Tq + q * C ≤ T + M * C) ∧ Hid (ts.length + q * U ≤ M * U) ∧ Hid (cmds ts = p.enc) ∧ Hid (OC wr w.heap.size D ts.length dd ts) ∧ Hid (∀ t ∈ ts, t.e.length ≤ 40) ∧ Hid p.low ∧ Hid p.ok ∧ Hid (DS w b A n c xs Tq wr)) (fun s1 _ _ => (intOf s1).toNat)
  case atStart => exact ⟨M, _, 0, [], .done, T, Nat.le_refl _, rfl, rfl, Lib.hid (Nat.le_refl _), Lib.hid (by simp), Lib.hid rfl, HO0, Lib.hid (by simp), Lib.hid trivial, Lib.hid trivial, HD0⟩
  case round =>
    obtain ⟨q, D, dd, ts, p, Tq, hq, rfl, rfl, HTq, HL, HC, HO, HR, HLO, HOK, HDr⟩ := hrel
    clear HO0 HD0
    by_cases hq0 : 0 < q
    rotate_left
    · obtain rfl : q = 0 := by omega
      have i1 : ¬ ((0 : Int) < ((0 : Nat) : Int)) := by omega
      go_wp2_with fail
      go_ret
      refine ⟨D, dd, ts, p, rfl, HC, HO.out, by have := HL.out; omega, HR, HLO, HOK, HDr.out.src.le (by have := HTq.out; omega), HDr.out.kb⟩
    obtain ⟨q', rfl⟩ : ∃ q', q = q' + 1 := ⟨q - 1, by omega⟩
    have i1 : (0 : Int) < ((q' + 1 : Nat) : Int) := by omega
    have i9 : IntKind.i64.wrap (((q' + 1 : Nat) : Int) - 1) = (q' : Int) := by rw [IntWalk.i64_in _ (by omega)]; omega
    have HT1 : Hid (Tq + C ≤ 1000000) := Lib.hid (by have h1 := HTq.out; have h2 := HTC.out; rw [Nat.add_mul, Nat.one_mul] at h1; omega)
    have hT1 := HT1.out
    have htl : ts.length ≤ 40 := by have h1 := HL.out; have h2 := HMU.out; omega
    have hw : w.heap.size ≤ wr.heap.size := HDr.out.kb.size
    obtain ⟨Q, hQ⟩ : ∃ Q, q' + 1 = Q := ⟨_, rfl⟩
    rw [hQ] at i1 i9 ⊢
    have HQ := Lib.hid hQ
    have hqQ : q' < Q := by omega
    have hqM : q' ≤ M := by omega
    clear hQ hq0 hq
    -- what is left where the command is no loop
    have tail : True := trivial
    by_cases hd0 : 0 < d
    rotate_left
    · have i2 : ¬ ((0 : Int) < (d : Int)) := by omega
      go_upto_region 10 with fail
      have HDq : Hid (DS w b A n c xs (Tq + 2) wr) := Lib.hid (HDr.out.le (by omega))
      have HOq := HO
      clear HDr HO
      go_wp2_with fail
      refine (pick_any b A n c (Tq + 2) xs 3 _ HDq.out.bytes HA.out HDq.out.src (by omega) hn (by omega) (by omega)).mono ?_
      rintro e1 w1 ⟨x, rfl, hx0, hx1, hs1, hk1⟩
      obtain ⟨v, rfl⟩ : ∃ v : Nat, x = (v : Int) := ⟨x.toNat, by omega⟩
      have hv : v < 4 := by omega
      have HD1 := Lib.hid (HDq.out.step hk1 hs1 HA.out)
      have HO1 := Lib.hid (HOq.out.kb hk1 hb)
      clear hs1 hk1 hx0 hx1 HDq HOq
      go_wp2_with fail
      refine (pick_any b A n c (Tq + 2 + 2) xs 4 _ HD1.out.bytes HA.out HD1.out.src (by omega) hn (by omega) (by omega)).mono ?_
      rintro e2 w2 ⟨y, rfl, hy0, hy1, hs2, hk2⟩
      obtain ⟨m, hm⟩ : ∃ m : Nat, (m : Int) = 1 + y := ⟨(1 + y).toNat, by omega⟩
      have i4 : IntKind.i64.wrap (1 + y) = (m : Int) := by rw [IntWalk.i64_in _ (by omega)]; omega
      have hm1 : 1 ≤ m := by omega
      have hm4 : m ≤ 4 := by omega
      have HD2 := Lib.hid (HD1.out.step hk2 hs2 HA.out)
      have HO2 := Lib.hid (HO1.out.kb hk2 hb)
      have hb2 := HD2.out.lt
      clear hs2 hk2 hy0 hy1 hm HD1 HO1
      go_wp2_with fail
      refine (drawExpr_any b A n c xs hn HA.out m (Tq + 2 + 2 + 2) w2 hm1 (by omega) HD2.out.bytes HD2.out.src hb2 (by omega)).mono ?_
      rintro e3 w3 ⟨E, ec, ex, rfl, oe, hel, HEL, hs3, hk3⟩
      have HD3 := Lib.hid (HD2.out.step hk3 hs3 HA.out)
      have HO3 := Lib.hid (HO2.out.kb hk3 hb)
      have hw2 := HD2.out.kb.size
      have hel4 : ex.len ≤ 7 := by omega
      have HOE := Lib.hid (oe.mono hw2)
      clear hs3 hk3 HD2 HO2 oe hel hw2
      go_wp2_with fail
      refine (l22Set_any _ _ _ _ _).mono ?_
      rintro e4 w4 ⟨rfl, z4⟩
      have HD4 := Lib.hid ((HD3.out.below z4).alloc (.cells #[.int .i64 0, .int .i64 (v : Int), .int .i64 0, .slice E ex.len ec] 99))
      have HO4 := Lib.hid ((HO3.out.below z4).alloc (.cells #[.int .i64 0, .int .i64 (v : Int), .int .i64 0, .slice E ex.len ec] 99))
      have HE4 := Lib.hid ((HOE.out.below z4).alloc (.cells #[.int .i64 0, .int .i64 (v : Int), .int .i64 0, .slice E ex.len ec] 99))
      have hw4 := HD4.out.kb.size
      clear HD3 HO3 HOE z4
      go_wp2_with (at_builtin; refine wpList_append_Own rfl (.tmp 48) (.tmp 57) rfl elCm (lo := w.heap.size) rfl HO4.out.1 rfl (rd_cmd w4 0 (v : Int) 0 E ex.len ec) (by intro u hu; simp at hu; rcases hu with rfl | rfl | rfl | rfl <;> rfl) (by omega) (by simp only [maxLen]; omega) hw4 ?_; intro A7 c7 w7 o7 hg7 _; have HO7 := Lib.hid o7; have HG7 := Lib.hid hg7)
      go_roundw
      case rel =>
        have hoc := OC.pushR HO4.out (ex_len ex) HE4.out HO7.out HG7.out
        obtain ⟨lw, ok⟩ := set_pg hv HEL.out (by omega)
        have hq := HQ.out
        have hT := HTq.out
        have hLn := HL.out
        rw [Nat.add_mul, Nat.one_mul] at hT hLn
        refine ⟨q', A7, c7, ts ++ [⟨0, (v : Int), 0, E, ec, ex.enc⟩], p.app (.set v ex .done), Tq + C, hqM, by go_num, by rw [List.length_append]; rfl, Lib.hid (by omega), Lib.hid (by rw [List.length_append]; simp; omega), Lib.hid ?_, Lib.hid (by rw [List.length_append]; exact hoc), Lib.hid (fun t ht => ?_), Lib.hid (app_low HLO.out lw), Lib.hid (app_ok HOK.out ok), Lib.hid ?_⟩
        · rw [cmds_app, HC.out, app_enc]; rfl
        · rcases List.mem_append.1 ht with h | h
          · exact HR.out t h
          · rw [List.mem_singleton.1 h]; show ex.enc.length ≤ 40; rw [ex_len]; omega
        · exact (HD4.out.grown HO4.out.1 (Nat.le_refl _) hb HA.out HX.out HG7.out).le (by omega)
      case measure => (simp [intOf] <;> omega)
    · obtain ⟨d', hd', hCC, hUU⟩ := HC0.out hd0
      have i2 : (0 : Int) < (d : Int) := by omega
      have i3 : IntKind.i64.wrap ((d : Int) - 1) = (d' : Int) := by rw [IntWalk.i64_in _ (by omega)]; omega
      have HHD := Lib.hid hd'
      have HCC := Lib.hid hCC
      have HUU := Lib.hid hUU
      clear hd' hCC hUU
      go_wp2_with fail
      refine (one_any b A n c Tq xs 3 _ HDr.out.bytes HA.out HDr.out.src (by omega) hn (by omega) (by omega)).mono ?_
      rintro e0 w0 ⟨y0, rfl, hs0, hk0⟩
      have HDq := Lib.hid (HDr.out.step hk0 hs0 HA.out)
      have HOq := Lib.hid (HO.out.kb hk0 hb)
      clear hs0 hk0 HDr HO
      cases y0 with
      | false =>
        go_upto_region 10 with fail
        go_wp2_with fail
        refine (pick_any b A n c (Tq + 2) xs 3 _ HDq.out.bytes HA.out HDq.out.src (by omega) hn (by omega) (by omega)).mono ?_
        rintro e1 w1 ⟨x, rfl, hx0, hx1, hs1, hk1⟩
        obtain ⟨v, rfl⟩ : ∃ v : Nat, x = (v : Int) := ⟨x.toNat, by omega⟩
        have hv : v < 4 := by omega
        have HD1 := Lib.hid (HDq.out.step hk1 hs1 HA.out)
        have HO1 := Lib.hid (HOq.out.kb hk1 hb)
        clear hs1 hk1 hx0 hx1 HDq HOq
        go_wp2_with fail
        refine (pick_any b A n c (Tq + 2 + 2) xs 4 _ HD1.out.bytes HA.out HD1.out.src (by omega) hn (by omega) (by omega)).mono ?_
        rintro e2 w2 ⟨y, rfl, hy0, hy1, hs2, hk2⟩
        obtain ⟨m, hm⟩ : ∃ m : Nat, (m : Int) = 1 + y := ⟨(1 + y).toNat, by omega⟩
        have i4 : IntKind.i64.wrap (1 + y) = (m : Int) := by rw [IntWalk.i64_in _ (by omega)]; omega
        have hm1 : 1 ≤ m := by omega
        have hm4 : m ≤ 4 := by omega
        have HD2 := Lib.hid (HD1.out.step hk2 hs2 HA.out)
        have HO2 := Lib.hid (HO1.out.kb hk2 hb)
        have hb2 := HD2.out.lt
        clear hs2 hk2 hy0 hy1 hm HD1 HO1
        go_wp2_with fail
        refine (drawExpr_any b A n c xs hn HA.out m (Tq + 2 + 2 + 2) w2 hm1 (by omega) HD2.out.bytes HD2.out.src hb2 (by omega)).mono ?_
        rintro e3 w3 ⟨E, ec, ex, rfl, oe, hel, HEL, hs3, hk3⟩
        have HD3 := Lib.hid (HD2.out.step hk3 hs3 HA.out)
        have HO3 := Lib.hid (HO2.out.kb hk3 hb)
        have hw2 := HD2.out.kb.size
        have hel4 : ex.len ≤ 7 := by omega
        have HOE := Lib.hid (oe.mono hw2)
        clear hs3 hk3 HD2 HO2 oe hel hw2
        go_wp2_with fail
        refine (l22Set_any _ _ _ _ _).mono ?_
        rintro e4 w4 ⟨rfl, z4⟩
        have HD4 := Lib.hid ((HD3.out.below z4).alloc (.cells #[.int .i64 0, .int .i64 (v : Int), .int .i64 0, .slice E ex.len ec] 99))
        have HO4 := Lib.hid ((HO3.out.below z4).alloc (.cells #[.int .i64 0, .int .i64 (v : Int), .int .i64 0, .slice E ex.len ec] 99))
        have HE4 := Lib.hid ((HOE.out.below z4).alloc (.cells #[.int .i64 0, .int .i64 (v : Int), .int .i64 0, .slice E ex.len ec] 99))
        have hw4 := HD4.out.kb.size
        clear HD3 HO3 HOE z4
        go_wp2_with (at_builtin; refine wpList_append_Own rfl (.tmp 48) (.tmp 57) rfl elCm (lo := w.heap.size) rfl HO4.out.1 rfl (rd_cmd w4 0 (v : Int) 0 E ex.len ec) (by intro u hu; simp at hu; rcases hu with rfl | rfl | rfl | rfl <;> rfl) (by omega) (by simp only [maxLen]; omega) hw4 ?_; intro A7 c7 w7 o7 hg7 _; have HO7 := Lib.hid o7; have HG7 := Lib.hid hg7)
        go_roundw
        case rel =>
          have hoc := OC.pushR HO4.out (ex_len ex) HE4.out HO7.out HG7.out
          obtain ⟨lw, ok⟩ := set_pg hv HEL.out (by omega)
          have hq := HQ.out
          have hT := HTq.out
          have hLn := HL.out
          rw [Nat.add_mul, Nat.one_mul] at hT hLn
          refine ⟨q', A7, c7, ts ++ [⟨0, (v : Int), 0, E, ec, ex.enc⟩], p.app (.set v ex .done), Tq + C, hqM, by go_num, by rw [List.length_append]; rfl, Lib.hid (by omega), Lib.hid (by rw [List.length_append]; simp; omega), Lib.hid ?_, Lib.hid (by rw [List.length_append]; exact hoc), Lib.hid (fun t ht => ?_), Lib.hid (app_low HLO.out lw), Lib.hid (app_ok HOK.out ok), Lib.hid ?_⟩
          · rw [cmds_app, HC.out, app_enc]; rfl
          · rcases List.mem_append.1 ht with h | h
            · exact HR.out t h
            · rw [List.mem_singleton.1 h]; show ex.enc.length ≤ 40; rw [ex_len]; omega
          · exact (HD4.out.grown HO4.out.1 (Nat.le_refl _) hb HA.out HX.out HG7.out).le (by omega)
        case measure => (simp [intOf] <;> omega)
      | true =>
        go_upto_region 5 with fail
        go_wp2_with fail
        refine (pick_any b A n c (Tq + 2) xs 2 _ HDq.out.bytes HA.out HDq.out.src (by omega) hn (by omega) (by omega)).mono ?_
        rintro e1 w1 ⟨x, rfl, hx0, hx1, hs1, hk1⟩
        obtain ⟨m, hm⟩ : ∃ m : Nat, (m : Int) = 1 + x := ⟨(1 + x).toNat, by omega⟩
        have i4 : IntKind.i64.wrap (1 + x) = (m : Int) := by rw [IntWalk.i64_in _ (by omega)]; omega
        have hm2 : m ≤ 2 := by omega
        have HD1 := Lib.hid (HDq.out.step hk1 hs1 HA.out)
        have HO1 := Lib.hid (HOq.out.kb hk1 hb)
        clear hs1 hk1 hx0 hx1 HDq HOq hm
        go_wp2_with fail
        refine (HI.out d' m (Tq + 2 + 2) w1 HHD.out hm2 HD1.out.bytes HD1.out.src HD1.out.lt (by have := HCC.out; omega)).mono ?_
        rintro e2 w2 ⟨E, ec, us, pb, rfl, HBC, ob, hbl, HBR, HBLO, HBOK, hs2, hk2⟩
        have hlC : m * chP d' ≤ 2 * chP d' := Nat.mul_le_mul_right _ hm2
        have hlU : m * unP d' ≤ 2 * unP d' := Nat.mul_le_mul_right _ hm2
        have HD2 : Hid (DS w b A n c xs (Tq + C - 30) w2) := Lib.hid ((HD1.out.step hk2 hs2 HA.out).le (by have := HCC.out; omega))
        have HO2 := Lib.hid (HO1.out.kb hk2 hb)
        have HNE : Hid (∀ g, blk E = some g → blk D ≠ some g) := Lib.hid (fun g hg hd => by have h1 := ob.1.blk_ge g hg; have h2 := HO1.out.1.blk_lt g hd; omega)
        have HB2 := Lib.hid (ob.mono HD1.out.kb.size)
        have hbl2 : us.length + 2 ≤ U := by have := HUU.out; omega
        clear hs2 hk2 ob hbl hlC hlU HD1 HO1
        go_wp2_with fail
        refine (pick_any b A n c (Tq + C - 30) xs 3 _ HD2.out.bytes HA.out HD2.out.src (by omega) hn (by omega) (by omega)).mono ?_
        rintro e3 w3 ⟨x3, rfl, hx0, hx1, hs3, hk3⟩
        obtain ⟨v, rfl⟩ : ∃ v : Nat, x3 = (v : Int) := ⟨x3.toNat, by omega⟩
        have hv : v < 4 := by omega
        have HD3 : Hid (DS w b A n c xs (Tq + C - 28) w3) := Lib.hid ((HD2.out.step hk3 hs3 HA.out).le (by omega))
        have HO3 := Lib.hid (HO2.out.kb hk3 hb)
        have HB3 := Lib.hid (HB2.out.kb hk3 hb)
        clear hs3 hk3 hx0 hx1 HD2 HO2 HB2
        go_upto_region 7 with fail
        go_upto_if 32 with (go_at_call 80; refine (pick_any b A n c (Tq + C - 28) xs 3 _ HD3.out.bytes HA.out HD3.out.src (by omega) hn (by omega) (by omega)).mono ?_; rintro e4 w4 ⟨x4, rfl, hx0, hx1, hs4, hk4⟩)
        have HD4 : Hid (DS w b A n c xs (Tq + C - 26) w4) := Lib.hid ((HD3.out.step hk4 hs4 HA.out).le (by omega))
        have HO4 := Lib.hid (HO3.out.kb hk4 hb)
        have HB4 := Lib.hid (HB3.out.kb hk4 hb)
        clear hs4 hk4 HD3 HO3 HB3
        go_cut [8] from 32 to 41 (fun s8 wx => ∃ E ec us pb, s8 = .slice E (List.length us) ec ∧ Hid (cmds us = Pg.enc pb) ∧ Hid (OC wx w.heap.size E us.length ec us) ∧ us.length + 1 ≤ U ∧ Hid (∀ t ∈ us, t.e.length ≤ 40) ∧ Hid pb.low ∧ Hid pb.ok ∧ Hid (DS w b A n c xs (Tq + C - 20) wx) ∧ Hid (OC wx w.heap.size D ts.length dd ts))
        case first =>
          by_cases hx4 : 0 < x4
          rotate_left
          · go_wp2_with fail
            go_meet
            exact ⟨E, ec, us, pb, rfl, HBC, HB4, by omega, HBR, HBLO, HBOK, Lib.hid (HD4.out.le (by omega)), HO4⟩
          obtain ⟨W5, hW_⟩ : ∃ W_, W_ = w4.alloc (.cells #[.int .i64 4, .int .i64 0, .int .i64 1, .int .i64 (v : Int)] 118) := ⟨_, rfl⟩
          have b5 : Blk W5 w4.heap.size 118 #[.int .i64 4, .int .i64 0, .int .i64 1, .int .i64 (v : Int)] := by rw [hW_]; exact Blk.new w4 _ _
          have z5 : Below w4.heap.size w4 W5 := by rw [hW_]; exact (Below.refl _ _).alloc (Nat.le_refl _) _
          have HW5 := Lib.hid hW_
          clear hW_
          have hw4 := HD4.out.kb.size
          have HE5 : Hid (Own W5 w.heap.size 118 2 (some ⟨w4.heap.size, 0, none⟩) 2 2 (cells2 [⟨4, 0⟩, ⟨1, (v : Int)⟩])) := Lib.hid (by rw [HW5.out]; exact Own.lit w4 #[.int .i64 4, .int .i64 0, .int .i64 1, .int .i64 (v : Int)] _ 2 2 w.heap.size rfl (by simp [maxLen]) hw4)
          have HD5 := Lib.hid (HD4.out.below z5)
          have HO5 := Lib.hid (HO4.out.below z5)
          have HB5 := Lib.hid (HB4.out.below z5)
          clear HD4 HO4 HB4 z5 b5
          go_wp2_with fail
          rw [← HW5.out]
          clear HW5
          refine (l22Set_any _ _ _ _ _).mono ?_
          rintro e6 w6 ⟨rfl, z6⟩
          have HD6 := Lib.hid ((HD5.out.below z6).alloc (.cells #[.int .i64 0, .int .i64 (v : Int), .int .i64 0, .slice (some ⟨w4.heap.size, 0, none⟩) 2 2] 99))
          have HO6 := Lib.hid ((HO5.out.below z6).alloc (.cells #[.int .i64 0, .int .i64 (v : Int), .int .i64 0, .slice (some ⟨w4.heap.size, 0, none⟩) 2 2] 99))
          have HB6 := Lib.hid ((HB5.out.below z6).alloc (.cells #[.int .i64 0, .int .i64 (v : Int), .int .i64 0, .slice (some ⟨w4.heap.size, 0, none⟩) 2 2] 99))
          have HE6 := Lib.hid ((HE5.out.below z6).alloc (.cells #[.int .i64 0, .int .i64 (v : Int), .int .i64 0, .slice (some ⟨w4.heap.size, 0, none⟩) 2 2] 99))
          have hw6 := HD6.out.kb.size
          clear HD5 HO5 HB5 HE5 z6
          go_wp2_with (at_builtin; refine wpList_append_Own rfl (.tmp 33) (.tmp 40) rfl elCm (lo := w.heap.size) rfl HB6.out.1 rfl (rd_cmd w6 0 (v : Int) 0 (some ⟨w4.heap.size, 0, none⟩) 2 2) (by intro u hu; simp at hu; rcases hu with rfl | rfl | rfl | rfl <;> rfl) (by omega) (by simp only [maxLen]; omega) hw6 ?_; intro A7 c7 w7 o7 hg7 _; have HO7 := Lib.hid o7; have HG7 := Lib.hid hg7)
          go_meet
          have hoc := OC.pushR HB6.out rfl HE6.out HO7.out HG7.out
          obtain ⟨lw, ok⟩ := set_pg (ex := .tl (.var v)) hv hv (by show 1 + 1 ≤ 40; omega)
          have hoD : OC w7 w.heap.size D ts.length dd ts := HO6.out.grownN HB6.out.1 HG7.out HNE.out
          refine ⟨A7, c7, us ++ [⟨0, (v : Int), 0, some ⟨w4.heap.size, 0, none⟩, 2, [⟨4, 0⟩, ⟨1, (v : Int)⟩]⟩], pb.app (.set v (.tl (.var v)) .done), by rw [List.length_append]; rfl, Lib.hid ?_, Lib.hid (by rw [List.length_append]; exact hoc), by rw [List.length_append]; simp; omega, Lib.hid (fun t ht => ?_), Lib.hid (app_low HBLO.out lw), Lib.hid (app_ok HBOK.out ok), Lib.hid ?_, Lib.hid hoD⟩
          · rw [cmds_app, HBC.out, app_enc]; rfl
          · rcases List.mem_append.1 ht with h | h
            · exact HBR.out t h
            · rw [List.mem_singleton.1 h]; show 2 ≤ 40; omega
          · exact (HD6.out.grown HB6.out.1 (Nat.le_refl _) hb HA.out HX.out HG7.out).le (by omega)
        case rest =>
          clear HD4 HO4 HB4 HBC HBR HBLO HBOK HNE
          obtain ⟨E, ec, us, pb, rfl, HBC, HB5, hul, HBR, HBLO, HBOK, HD5, HO5⟩ := hcut
          go_wp2_with fail
          refine (l22Var_any _ _).mono ?_
          rintro e6 w6 ⟨V, vc, rfl, ov, z6⟩
          have HD6 := Lib.hid (HD5.out.below z6)
          have HO6 := Lib.hid (HO5.out.below z6)
          have HB6 := Lib.hid (HB5.out.below z6).sc
          have HV6 : Hid (S2 w6 V 1 [⟨1, (v : Int)⟩]) := Lib.hid ov.rd
          have hw6 := HD6.out.kb.size
          clear HD5 HO5 HB5 ov z6
          go_wp2_with fail
          refine (l22Loop_any V 1 vc [⟨1, (v : Int)⟩] E us.length ec us w6 HV6.out (by omega) HB6.out (by omega) (fun t ht => by have := HBR.out t ht; omega)).mono ?_
          rintro e7 w7 ⟨F, fc, vs, rfl, hvs, ol, z7⟩
          have HD7 := Lib.hid (HD6.out.below z7)
          have HO7 := Lib.hid (HO6.out.below z7)
          have HL7 := Lib.hid (ol.mono hw6)
          have hw7 := HD7.out.kb.size
          have hvl : vs.length = us.length + 1 := by have h := congrArg List.length hvs; rw [cmds_len, List.length_cons, cmds_len] at h; exact h
          have HVS := Lib.hid hvs
          have HVL := Lib.hid hvl
          have hvl2 : vs.length ≤ 20 := by omega
          clear HD6 HO6 HB6 HV6 ol z7 hvs hvl
          go_wp2_with (at_builtin; refine wpList_append_Own rfl (.tmp 42) (.tmp 46) rfl elCm (lo := w.heap.size) rfl HO7.out.1 rfl HL7.out.1.rd (Ce.one vs) (by omega) (by simp only [maxLen]; omega) hw7 ?_; intro A8 c8 w8 o8 hg8 _; have HO8 := Lib.hid o8; have HG8 := Lib.hid hg8)
          go_roundw
          case rel =>
            have hoc := OC.app HO7.out HL7.out.2 HO8.out HG8.out
            obtain ⟨lw, ok⟩ := wh_pg (p := pb) hv HBLO.out HBOK.out
            have hT := HTq.out
            have hLn := HL.out
            rw [Nat.add_mul, Nat.one_mul] at hT hLn
            refine ⟨q', A8, c8, ts ++ vs, p.app (.wh (.var v) pb .done), Tq + C, hqM, by go_num, by rw [List.length_append], Lib.hid (by omega), Lib.hid (by rw [List.length_append, HVL.out]; omega), Lib.hid ?_, Lib.hid (by rw [List.length_append]; exact hoc), Lib.hid (fun t ht => ?_), Lib.hid (app_low HLO.out lw), Lib.hid (app_ok HOK.out ok), Lib.hid ?_⟩
            · rw [cmds_app, HC.out, app_enc, HVS.out, HBC.out, ← cmds_len us, HBC.out]; simp [Pg.enc, Ex.enc]
            · rcases List.mem_append.1 ht with h | h
              · exact HR.out t h
              · have h1 : t.cmd ∈ cmds vs := List.mem_map.2 ⟨t, h, rfl⟩
                rw [HVS.out] at h1
                rcases List.mem_cons.1 h1 with h2 | h2
                · have h3 : t.e = [⟨1, (v : Int)⟩] := congrArg Cmd.e h2
                  rw [h3]; show 1 ≤ 40; omega
                · obtain ⟨u, hu, he⟩ := List.mem_map.1 h2
                  have h3 : u.e = t.e := congrArg Cmd.e he
                  rw [← h3]; exact HBR.out u hu
            · exact (HD7.out.grown HO7.out.1 (Nat.le_refl _) hb HA.out HX.out HG8.out).le (by omega)
          case measure => (simp [intOf] <;> omega)
end Go.Proofs.Ytfheepjfpgiaoaa
