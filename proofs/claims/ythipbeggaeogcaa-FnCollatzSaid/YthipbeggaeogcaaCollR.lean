/-
  The tag system of Collatz that runs while blocks ahead of its words are written.
-/
import Derived.Test.YthipbeggaeogcaaCollP
namespace Go.Proofs.Ythipbeggaeogcaa
open Go.RowKit

/-- A world's first n blocks. -/
def cutW (w : World) (n : Nat) : World := { w with heap := w.heap.extract 0 n }
theorem cutW_size {w : World} {n : Nat} (h : n ≤ w.heap.size) : (cutW w n).heap.size = n := by simp [cutW]; omega
theorem cutW_at {w : World} {n b : Nat} (h : n ≤ w.heap.size) (hb : b < n) : (cutW w n).heap[b]? = w.heap[b]? := by
  simp [cutW, Array.getElem?_extract]; omega
theorem cutW_below {w : World} {n : Nat} (h : n ≤ w.heap.size) : Below n (cutW w n) w := ⟨rfl, rfl, rfl, by rw [cutW_size h]; exact h, fun b hb => (cutW_at h hb).symm⟩

abbrev CoP (w0 : World) (g : Nat) (A : Option Addr) (c : Nat) (ts : List Sl) (B : Option Addr) (k n : Nat) : Tg := ⟨w0, g, 2, A, 3, c, ts, B, 0, k, [], zeros n⟩
/-- The system behind i steps; wb: what lies below its caller; ex: the last block ahead of its words; lo: the first behind them. -/
def CoO (wb : World) (lo ex g : Nat) (A : Option Addr) (c : Nat) (ts : List Sl) (B : Option Addr) (k n i : Nat) (Q : Option Addr) (r : Nat) (X : Nat → Prop) (W : World) : Prop :=
  ∃ w0, w0.heap.size = lo ∧ Below wb.heap.size wb w0 ∧ (CoP w0 g A c ts B k n).Ok ∧ OII w0 (ex + 1) 25 2 A 3 c ts ∧ nums ts = collWords ∧ TgO (CoP w0 g A c ts B k n) i Q r X W

theorem CoO.turn {wb : World} {lo ex g : Nat} {A : Option Addr} {c : Nat} {ts : List Sl} {B : Option Addr} {k n i : Nat} {Q : Option Addr} {r : Nat} {X Y : Nat → Prop} {W W' : World} (h : CoO wb lo ex g A c ts B k n i Q r X W) (hk : Keep Y W W') (hY : ∀ b, Y b → X b ∧ wb.heap.size ≤ b ∧ (b ≤ ex ∨ lo ≤ b)) :
    CoO wb lo ex g A c ts B k n i Q r (XGrow X W.heap.size W'.heap.size) W' := by
  obtain ⟨w0, rfl, hwb, hok, ho, hn, ht⟩ := h
  have hlW : w0.heap.size ≤ W.heap.size := ht.low.size
  have hlW' : w0.heap.size ≤ W'.heap.size := Nat.le_trans hlW hk.size
  have hws : wb.heap.size ≤ w0.heap.size := hwb.size
  have hbw : Below wb.heap.size wb W' := by
    have h1 : Below wb.heap.size wb W := hwb.trans (Below.mono ht.low hws)
    exact ⟨hk.os.trans h1.os, hk.tape.trans h1.tape, hk.output.trans h1.output, Nat.le_trans h1.size hk.size, fun b hb => (hk.block b (by omega) (fun hy => by have := (hY b hy).2.1; omega)).trans (h1.block b hb)⟩
  have hwc : Below wb.heap.size wb (cutW W' w0.heap.size) := ⟨hbw.os, hbw.tape, hbw.output, by rw [cutW_size hlW']; exact hws, fun b hb => (cutW_at hlW' (by omega)).trans (hbw.block b hb)⟩
  have hO : OII (cutW W' w0.heap.size) (ex + 1) 25 2 A 3 c ts := ho.keptB (fun b hb => by
    obtain ⟨h1, h2⟩ := ho.blkB b hb
    rw [cutW_at hlW' h2, hk.block b (by omega) (fun hy => by have := (hY b hy).2.2; omega)]
    exact ht.low.block b h2)
  have hg : g < W.heap.size := (Array.getElem?_eq_some_iff.1 ht.run).1
  refine ⟨cutW W' w0.heap.size, cutW_size hlW', hwc, ⟨hok.code, hO.sii, SI.nil, by rw [cutW_size hlW']; exact hok.hg, hok.hn, hok.hm⟩, hO, hn, ?_, ?_, ?_, ?_, ?_, ?_⟩
  · rintro (h1 | ⟨h1, _⟩)
    · exact ht.ng h1
    · have h2 : W.heap.size ≤ g := h1
      omega
  · rintro b (h1 | ⟨_, h1⟩)
    · have := ht.lt b h1; have := hk.size; omega
    · exact h1
  · exact (hk.block g hg (fun hy => ht.ng (hY _ hy).1)).trans ht.run
  · have h1 := ht.own.kept (w' := W') fun b hb _ hlt => hk.block b hlt (fun hy => ht.nq b hb (hY b hy).1)
    show Own W' (cutW W' w0.heap.size).heap.size _ _ _ _ _ _
    rw [cutW_size hlW']; exact h1
  · rintro b hb (h1 | ⟨h1, _⟩)
    · exact ht.nq b hb h1
    · have := ht.own.blk_lt b hb; omega
  · show Below (cutW W' w0.heap.size).heap.size (cutW W' w0.heap.size) W'
    rw [cutW_size hlW']; exact cutW_below hlW'

def CoV (wb : World) (lo ex g : Nat) (A : Option Addr) (c : Nat) (ts : List Sl) (B : Option Addr) (k n i : Nat) (D : (Nat → Prop) → World → Prop) (u : Value) (W : World) : Prop :=
  ∃ Q r X, u = .slice Q (collSys.it (zeros n) i).length r ∧ CoO wb lo ex g A c ts B k n i Q r X W ∧ D X W
def CoS (wb : World) (lo ex g : Nat) (A : Option Addr) (c : Nat) (ts : List Sl) (B : Option Addr) (k n i : Nat) (D : (Nat → Prop) → World → Prop) (W : World) : Prop :=
  ∃ u, CoV wb lo ex g A c ts B k n i D u W

theorem runColl (wb : World) (lo ex g : Nat) (A : Option Addr) (c : Nat) (ts : List Sl) (B : Option Addr) (k n N : Nat) (fv : FuncId) (lb : Array Value) (vis : Nat → Bool) (D : Nat → (Nat → Prop) → World → Prop) (hD : ∀ i, FrD (D i)) (w : World) (hN : N ≤ 1000000)
    (hcall : ∀ (args : Array Value) (w : World), (callFunc fv args).run Try.prog w = .ok (.enter fv args) w)
    (hB : ∀ i u W, i ≤ N → collSys.Alive (zeros n) i → CoV wb lo ex g A c ts B k n i (D i) u W → Calls Try.prog fv (#[u] ++ lb) W fun e W' => e = .returned (.bool (vis i)) ∧ CoS wb lo ex g A c ts B k n i (D (i + 1)) W') (h0 : CoS wb lo ex g A c ts B k n 0 (D 0) w) :
    Calls Try.prog 79 #[.iface 131 (.pointer (some ⟨g, 0, none⟩)), .int .i64 (N : Int), .func (.func fv) #[] lb] w (SysP collSys (zeros n) N vis (fun i W => CoS wb lo ex g A c ts B k n i (D (i + 1)) W) (fun W => Below wb.heap.size wb W)) := by
  have hsys : ∀ w0, nums ts = collWords → (CoP w0 g A c ts B k n).sys = collSys := fun w0 h => by show tagSys 2 (nums ts) [] = _; rw [h]; rfl
  refine runSystem_any collSys (zeros n) N _ _ _ _ _ fv lb vis (fun i W => CoS wb lo ex g A c ts B k n i (D i) W) (fun i u W => CoV wb lo ex g A c ts B k n i (D i) u W) _ _ w hN (tagM_word g) (tagM_halts g) (tagM_step g) Try.call246 Try.call151 Try.call152 hcall ?_ hB ?_ ?_ h0
  · rintro i W _ _ ⟨u, Q, r, X, rfl, ⟨w0, h1, h2, h3, h4, h5, ho⟩, hd⟩
    have hit : (CoP w0 g A c ts B k n).it i = collSys.it (zeros n) i := by show (CoP w0 g A c ts B k n).sys.it _ i = _; rw [hsys w0 h5]
    refine (tagWord_any g _ A _ c B _ k Q _ r W ho.run).mono fun e W' ⟨he, hW⟩ => ⟨_, he, Q, r, X, by rw [hit], ⟨w0, h1, h2, h3, h4, h5, hW ▸ ho⟩, hW ▸ hd⟩
  · rintro i W _ hal ⟨u, Q, r, X, rfl, ⟨w0, h1, h2, h3, h4, h5, ho⟩, hd⟩
    have hal' : (CoP w0 g A c ts B k n).sys.Alive (CoP w0 g A c ts B k n).xs i := by rw [hsys w0 h5]; exact hal
    refine (tagHalts_g h3 hal' ho).mono ?_
    rintro e W' ⟨he, q, rfl⟩
    have hit : (CoP w0 g A c ts B k n).it i = collSys.it (zeros n) i := by show (CoP w0 g A c ts B k n).sys.it _ i = _; rw [hsys w0 h5]
    rw [hit, hsys w0 h5] at he
    exact ⟨he, _, Q, r, X, rfl, ⟨w0, h1, h2, h3, h4, h5, ho.drewN q⟩, hD _ X W _ hd ((Fr.refl X W).drewN q)⟩
  · rintro i W _ hal hh ⟨u, Q, r, X, rfl, ⟨w0, h1, h2, h3, h4, h5, ho⟩, hd⟩
    have hal' : (CoP w0 g A c ts B k n).sys.Alive (CoP w0 g A c ts B k n).xs i := by rw [hsys w0 h5]; exact hal
    have hit : (CoP w0 g A c ts B k n).it i = collSys.it (zeros n) i := by show (CoP w0 g A c ts B k n).sys.it _ i = _; rw [hsys w0 h5]
    have hh' : (CoP w0 g A c ts B k n).sys.halt ((CoP w0 g A c ts B k n).it i) = false := by rw [hit, hsys w0 h5]; exact hh
    refine (tagStep_g h3 hal' hh' ho).mono ?_
    rintro e W' ⟨he, ⟨Q', r', ho'⟩, hf⟩
    rw [hit, hsys w0 h5] at he
    exact ⟨he, fun _ => ⟨_, Q', r', X, rfl, ⟨w0, h1, h2, h3, h4, h5, ho'⟩, hD _ X W _ hd hf⟩, fun _ => h2.trans (Below.mono ho'.low h2.size)⟩
end Go.Proofs.Ythipbeggaeogcaa
