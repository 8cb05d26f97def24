/- A part of the proof of this sentence: the tables of unicode/utf8 are as the program's text lays them. -/
import Derived.Test.YtoikneogdbdplaaDoorCMimeTypes2
set_option linter.unusedVariables false
set_option linter.unusedSimpArgs false
namespace Go.Proofs.YtoikneogdbdplaaDoor.Fn
open Go.RowKit Go.Shelf Go.Proofs.YtoikneogdbdplaaDoorW.PrintWords

def mime_Split.f (a0 a1 : ByteArray) : Option (List ByteArray × Int) := if a0.size ≤ 1000000 then (if a1.size ≤ 1000000 then some (Pl.mimeSplit a0 a1) else none) else none

structure MC (b0 b1 b2 b3 b4 b5 : Nat) (a1 : ByteArray) (W : World) (vr : Value) (rc : Int) (vo vl : Value) (bg : Bool) : Prop where
  ord : b0 < b1 ∧ b1 < b2 ∧ b2 < b3 ∧ b3 < b4 ∧ b4 < b5
  c0 : W.cell? ⟨b0, 0, none⟩ = some (.string a1)
  c1 : W.cell? ⟨b1, 0, none⟩ = some vr
  f1 : W.frozen? ⟨b1, 0, none⟩ = false
  c2 : W.cell? ⟨b2, 0, none⟩ = some (.int .i64 rc)
  f2 : W.frozen? ⟨b2, 0, none⟩ = false
  c3 : W.cell? ⟨b3, 0, none⟩ = some vo
  f3 : W.frozen? ⟨b3, 0, none⟩ = false
  c4 : W.cell? ⟨b4, 0, none⟩ = some vl
  f4 : W.frozen? ⟨b4, 0, none⟩ = false
  c5 : W.cell? ⟨b5, 0, none⟩ = some (.bool bg)
  f5 : W.frozen? ⟨b5, 0, none⟩ = false
section
variable {b0 b1 b2 b3 b4 b5 : Nat} {a1 : ByteArray} {W W' : World} {vr vo vl : Value} {rc : Int} {bg : Bool}
theorem MC.move (m : MC b0 b1 b2 b3 b4 b5 a1 W vr rc vo vl bg) (hm : ∀ b, b0 ≤ b → b ≤ b5 → W'.heap[b]? = W.heap[b]?) : MC b0 b1 b2 b3 b4 b5 a1 W' vr rc vo vl bg := by
  have o := m.ord
  have k : ∀ b, b0 ≤ b → b ≤ b5 → W'.cell? ⟨b, 0, none⟩ = W.cell? ⟨b, 0, none⟩ ∧ W'.frozen? ⟨b, 0, none⟩ = W.frozen? ⟨b, 0, none⟩ := fun b h1 h2 => ⟨World.cell?_of_block (hm b h1 h2), World.frozen?_of_block (hm b h1 h2)⟩
  exact ⟨o, (k b0 (by omega) (by omega)).1.trans m.c0, (k b1 (by omega) (by omega)).1.trans m.c1, (k b1 (by omega) (by omega)).2.trans m.f1, (k b2 (by omega) (by omega)).1.trans m.c2, (k b2 (by omega) (by omega)).2.trans m.f2, (k b3 (by omega) (by omega)).1.trans m.c3, (k b3 (by omega) (by omega)).2.trans m.f3, (k b4 (by omega) (by omega)).1.trans m.c4, (k b4 (by omega) (by omega)).2.trans m.f4, (k b5 (by omega) (by omega)).1.trans m.c5, (k b5 (by omega) (by omega)).2.trans m.f5⟩
theorem MC.lt (m : MC b0 b1 b2 b3 b4 b5 a1 W vr rc vo vl bg) : b5 < W.heap.size := cell_inside m.c5
theorem MC.below (m : MC b0 b1 b2 b3 b4 b5 a1 W vr rc vo vl bg) (hb : Below W.heap.size W W') : MC b0 b1 b2 b3 b4 b5 a1 W' vr rc vo vl bg := m.move (fun b _ h2 => hb.block b (by have := m.lt; omega))
theorem MC.grown (m : MC b0 b1 b2 b3 b4 b5 a1 W vr rc vo vl bg) {row : Option Nat} (hg : W.grownBy W' row) (hr : ∀ k, row = some k → b5 < k) : MC b0 b1 b2 b3 b4 b5 a1 W' vr rc vo vl bg := m.move (fun b _ h2 => hg.block b (by have := m.lt; omega) (fun e => by have := hr b e.symm; omega))
theorem MC.walk (m : MC b0 b1 b2 b3 b4 b5 a1 W vr rc vo vl bg) {row : Option Nat} (hg : W.grownBy W' row) (hr : ∀ r, row = some r → ∃ o : Obj, W.heap[r]? = some o ∧ o.isCells = false) : MC b0 b1 b2 b3 b4 b5 a1 W' vr rc vo vl bg :=
  ⟨m.ord, cell_kept m.c0 hg hr, cell_kept m.c1 hg hr, (frozen_kept m.c1 hg hr).trans m.f1, cell_kept m.c2 hg hr, (frozen_kept m.c2 hg hr).trans m.f2, cell_kept m.c3 hg hr, (frozen_kept m.c3 hg hr).trans m.f3, cell_kept m.c4 hg hr, (frozen_kept m.c4 hg hr).trans m.f4, cell_kept m.c5 hg hr, (frozen_kept m.c5 hg hr).trans m.f5⟩
theorem MC.far (m : MC b0 b1 b2 b3 b4 b5 a1 W vr rc vo vl bg) {p : Addr} (hp : b5 < p.block) (u : Value) : MC b0 b1 b2 b3 b4 b5 a1 (W.setCell p u) vr rc vo vl bg := m.move (fun b _ h2 => Below.heap_setCell W p u b (by omega))
theorem cell_same {W : World} {p : Addr} {v u : Value} (hc : W.cell? p = some v) : (W.setCell p u).cell? p = some u := World.cell?_setCell_same' _ _ _ (by rw [hc]; rfl)
theorem cell_far {W : World} {b b' : Nat} {v u : Value} (hc : W.cell? ⟨b, 0, none⟩ = some v) (hne : b ≠ b') : (W.setCell ⟨b', 0, none⟩ u).cell? ⟨b, 0, none⟩ = some v := (World.cell?_setCell_other _ _ _ _ (by first | (simp; done) | (simp; omega))).trans hc
theorem MC.set1 (m : MC b0 b1 b2 b3 b4 b5 a1 W vr rc vo vl bg) (u : Value) : MC b0 b1 b2 b3 b4 b5 a1 (W.setCell ⟨b1, 0, none⟩ u) u rc vo vl bg := by
  have o := m.ord
  exact ⟨o, cell_far m.c0 (by omega), cell_same m.c1, by rw [World.frozen?_setCell]; exact m.f1, cell_far m.c2 (by omega), by rw [World.frozen?_setCell]; exact m.f2, cell_far m.c3 (by omega), by rw [World.frozen?_setCell]; exact m.f3, cell_far m.c4 (by omega), by rw [World.frozen?_setCell]; exact m.f4, cell_far m.c5 (by omega), by rw [World.frozen?_setCell]; exact m.f5⟩
theorem MC.set2 (m : MC b0 b1 b2 b3 b4 b5 a1 W vr rc vo vl bg) (u : Int) : MC b0 b1 b2 b3 b4 b5 a1 (W.setCell ⟨b2, 0, none⟩ (.int .i64 u)) vr u vo vl bg := by
  have o := m.ord
  exact ⟨o, cell_far m.c0 (by omega), cell_far m.c1 (by omega), by rw [World.frozen?_setCell]; exact m.f1, cell_same m.c2, by rw [World.frozen?_setCell]; exact m.f2, cell_far m.c3 (by omega), by rw [World.frozen?_setCell]; exact m.f3, cell_far m.c4 (by omega), by rw [World.frozen?_setCell]; exact m.f4, cell_far m.c5 (by omega), by rw [World.frozen?_setCell]; exact m.f5⟩
theorem MC.set3 (m : MC b0 b1 b2 b3 b4 b5 a1 W vr rc vo vl bg) (u : Value) : MC b0 b1 b2 b3 b4 b5 a1 (W.setCell ⟨b3, 0, none⟩ u) vr rc u vl bg := by
  have o := m.ord
  exact ⟨o, cell_far m.c0 (by omega), cell_far m.c1 (by omega), by rw [World.frozen?_setCell]; exact m.f1, cell_far m.c2 (by omega), by rw [World.frozen?_setCell]; exact m.f2, cell_same m.c3, by rw [World.frozen?_setCell]; exact m.f3, cell_far m.c4 (by omega), by rw [World.frozen?_setCell]; exact m.f4, cell_far m.c5 (by omega), by rw [World.frozen?_setCell]; exact m.f5⟩
theorem MC.set4 (m : MC b0 b1 b2 b3 b4 b5 a1 W vr rc vo vl bg) (u : Value) : MC b0 b1 b2 b3 b4 b5 a1 (W.setCell ⟨b4, 0, none⟩ u) vr rc vo u bg := by
  have o := m.ord
  exact ⟨o, cell_far m.c0 (by omega), cell_far m.c1 (by omega), by rw [World.frozen?_setCell]; exact m.f1, cell_far m.c2 (by omega), by rw [World.frozen?_setCell]; exact m.f2, cell_far m.c3 (by omega), by rw [World.frozen?_setCell]; exact m.f3, cell_same m.c4, by rw [World.frozen?_setCell]; exact m.f4, cell_far m.c5 (by omega), by rw [World.frozen?_setCell]; exact m.f5⟩
theorem MC.set5 (m : MC b0 b1 b2 b3 b4 b5 a1 W vr rc vo vl bg) (u : Bool) : MC b0 b1 b2 b3 b4 b5 a1 (W.setCell ⟨b5, 0, none⟩ (.bool u)) vr rc vo vl u := by
  have o := m.ord
  exact ⟨o, cell_far m.c0 (by omega), cell_far m.c1 (by omega), by rw [World.frozen?_setCell]; exact m.f1, cell_far m.c2 (by omega), by rw [World.frozen?_setCell]; exact m.f2, cell_far m.c3 (by omega), by rw [World.frozen?_setCell]; exact m.f3, cell_far m.c4 (by omega), by rw [World.frozen?_setCell]; exact m.f4, cell_same m.c5, by rw [World.frozen?_setCell]; exact m.f5⟩
end

attribute [local go_sem] Oper.semAt_some

def MI (b0 b1 b2 b3 b4 b5 BS : Nat) (a1 : ByteArray) (W2 : World) (pre : List ByteArray) (W : World) : Prop :=
  (∃ s vo vl, Pl.mrun a1 pre ([], [], false) = .inl s ∧ MC b0 b1 b2 b3 b4 b5 a1 W (.slice none 0 0) 0 vo vl s.2.2 ∧ Two b0 (BS + 2) W vo vl s.1 s.2.1) ∧ Below b0 W2 W
def MX (b0 b1 b2 b3 b4 b5 BS : Nat) (a1 : ByteArray) (W2 : World) (c : Code) (pre : List ByteArray) (W : World) : Prop :=
  (c = .ret ∧ ∃ r vr vo vl bg, Pl.mrun a1 pre ([], [], false) = .inr r ∧ MC b0 b1 b2 b3 b4 b5 a1 W vr r.2 vo vl bg ∧ Kd.R Kd.string 9 W b0 (fun k => BS + 2 < k) vr r.1) ∧ Below b0 W2 W

set_option maxHeartbeats 4000000 in
set_option maxRecDepth 100000 in
theorem mime_Split.calls (a0 a1 : ByteArray) (r1 : List ByteArray) (r2 : Int) (w : World) (hG : Glob w) (h : mime_Split.f a0 a1 = some (r1, r2)) :
    Calls Tryd.prog 38 #[.string a0, .string a1] w fun e w' => ∃ v0_ : Value, e = .returned (.tuple #[v0_, .int .i64 r2]) ∧ Kd.R Kd.string 9 w' w.heap.size (fun _ => True) v0_ r1 ∧ Below w.heap.size w w' := by
  unfold mime_Split.f at h
  by_cases hs : a0.size ≤ 1000000
  case neg => rw [if_neg hs] at h; exact absurd h (by simp)
  rw [if_pos hs] at h
  by_cases hs1 : a1.size ≤ 1000000
  case neg => rw [if_neg hs1] at h; exact absurd h (by simp)
  rw [if_pos hs1] at h
  have HR := Aside0.mk (Option.some.inj h)
  have HG := Aside0.mk hG
  clear h hG
  have h1 : 1 ≤ 3 := by decide
  have k0 := box_cell w (.string a1) 9
  have k1 := box_cell (w.alloc (.cells #[.string a1] 9)) (.slice none 0 0) 32
  have k2 := box_cell ((w.alloc (.cells #[.string a1] 9)).alloc (.cells #[.slice none 0 0] 32)) (.int .i64 0) 52
  rw [World.size_alloc] at k1
  rw [World.size_alloc, World.size_alloc] at k2
  obtain ⟨w0, hw0⟩ : ∃ w0, ((w.alloc (.cells #[.string a1] 9)).alloc (.cells #[.slice none 0 0] 32)).alloc (.cells #[.int .i64 0] 52) = w0 := ⟨_, rfl⟩
  have B0 : Below w.heap.size w w0 := by rw [← hw0]; exact (((Below.refl _ w).alloc (Nat.le_refl _) _).alloc (by simp) _).alloc (by simp; omega) _
  have z0 : w0.heap.size = w.heap.size + 1 + 1 + 1 := by rw [← hw0]; simp
  have c0 : w0.cell? ⟨w.heap.size, 0, none⟩ = some (.string a1) := by rw [← hw0]; exact cell_on _ (cell_on _ k0.1)
  have c1 : w0.cell? ⟨w.heap.size + 1, 0, none⟩ = some (.slice none 0 0) := by rw [← hw0]; exact cell_on _ k1.1
  have f1 : w0.frozen? ⟨w.heap.size + 1, 0, none⟩ = false := by rw [← hw0]; exact frozen_on _ k1.1 k1.2
  have c2 : w0.cell? ⟨w.heap.size + 1 + 1, 0, none⟩ = some (.int .i64 0) := by rw [← hw0]; exact k2.1
  have f2 : w0.frozen? ⟨w.heap.size + 1 + 1, 0, none⟩ = false := by rw [← hw0]; exact k2.2
  clear k0 k1 k2
  have hri := Pl.mimeright_is a1 (by omega) (a1.size + 1) (by omega)
  refine (callsIn_wide (n := 3)).1 ?_
  refine callsIn_of_wp_marks Tryd.func38 rfl trivial ?_ rfl
  simp only [Tryd.ntmps38, List.size_toArray, List.length_cons, List.length_nil, Nat.reduceAdd, Nat.reduceSub, Array.replicate_succ, Array.replicate_zero, List.push_toArray, List.append_toArray, List.nil_append, List.cons_append]
  cases hb : Pl.rightBd (Pl.bs a1) with
  | false =>
    rw [hb] at hri
    gi_wp2_with (refine ⟨trivial, ?_⟩; gi_at_call 76; refine (callsIn_wide.2 (mime_right.calls _ a1 false _ hri)).mono ?_; rintro e w' ⟨rfl, ⟨⟨nd, rfl⟩⟩⟩)
    obtain ⟨q1, q2⟩ := two_set (W := w0.drewN nd) (b := w.heap.size + 1) (x := .slice none 0 0) (y := .int .i64 200) c1 c2
    have hfin := HR.out
    rw [show Pl.mimeSplit a0 a1 = ([], 200) from by unfold Pl.mimeSplit; rw [hb]; rfl] at hfin
    simp only [Prod.mk.injEq] at hfin
    obtain ⟨rfl, rfl⟩ := hfin
    refine ⟨.tuple #[.slice none 0 0, .int .i64 200], ?_, .slice none 0 0, rfl, Kd.R_nil _ _ _ _ _, below_two (pw_below_drewN B0 nd) (by omega)⟩
    simp [results, Tryd.f38, go_sem, q1, q2]
  | true =>
    rw [hb] at hri
    gi_wp2_with (first
      | (refine ⟨trivial, ?_⟩; gi_at_call 76; refine (callsIn_wide.2 (mime_right.calls _ a1 true _ hri)).mono ?_; rintro e w' ⟨rfl, ⟨⟨nd, rfl⟩⟩⟩)
      | (refine ⟨trivial, ?_⟩; gi_at_call 73; refine (callsIn_wide.2 (SplitSeq_calls _ _ _)).mono ?_; rintro e W2 ⟨rfl, hbx, hz, hB2⟩))
    have Bd : Below w.heap.size w (w0.drewN nd) := pw_below_drewN B0 nd
    have zd : (w0.drewN nd).heap.size = w.heap.size + 1 + 1 + 1 := z0
    have k3 := box_cell (w0.drewN nd) (.slice none 0 0) 32
    have k4 := box_cell ((w0.drewN nd).alloc (.cells #[.slice none 0 0] 32)) (.slice none 0 0) 32
    have k5 := box_cell (((w0.drewN nd).alloc (.cells #[.slice none 0 0] 32)).alloc (.cells #[.slice none 0 0] 32)) (.bool false) 4
    rw [World.size_alloc] at k4
    rw [World.size_alloc, World.size_alloc] at k5
    rw [zd] at k3 k4 k5
    have m0 : MC w.heap.size (w.heap.size + 1) (w.heap.size + 1 + 1) (w.heap.size + 1 + 1 + 1) (w.heap.size + 1 + 1 + 1 + 1) (w.heap.size + 1 + 1 + 1 + 1 + 1) a1 ((((w0.drewN nd).alloc (.cells #[.slice none 0 0] 32)).alloc (.cells #[.slice none 0 0] 32)).alloc (.cells #[.bool false] 4)) (.slice none 0 0) 0 (.slice none 0 0) (.slice none 0 0) false :=
      ⟨by omega, cell_on _ (cell_on _ (cell_on _ c0)), cell_on _ (cell_on _ (cell_on _ c1)), frozen_on _ (cell_on _ (cell_on _ c1)) (frozen_on _ (cell_on _ c1) (frozen_on _ c1 f1)), cell_on _ (cell_on _ (cell_on _ c2)), frozen_on _ (cell_on _ (cell_on _ c2)) (frozen_on _ (cell_on _ c2) (frozen_on _ c2 f2)), cell_on _ (cell_on _ k3.1), frozen_on _ (cell_on _ k3.1) (frozen_on _ k3.1 k3.2), cell_on _ k4.1, frozen_on _ k4.1 k4.2, k5.1, k5.2⟩
    have zx : ((((w0.drewN nd).alloc (.cells #[.slice none 0 0] 32)).alloc (.cells #[.slice none 0 0] 32)).alloc (.cells #[.bool false] 4)).heap.size = w.heap.size + 1 + 1 + 1 + 1 + 1 + 1 := by rw [World.size_alloc, World.size_alloc, World.size_alloc, zd]
    have Bx : Below w.heap.size w ((((w0.drewN nd).alloc (.cells #[.slice none 0 0] 32)).alloc (.cells #[.slice none 0 0] 32)).alloc (.cells #[.bool false] 4)) := ((Bd.alloc (by omega) _).alloc (by simp only [World.size_alloc]; omega) _).alloc (by simp only [World.size_alloc]; omega) _
    rw [zx] at hbx hz hB2
    have m2 := m0.below (by rw [zx]; exact hB2)
    have B2 : Below w.heap.size w W2 := Bx.trans (hB2.mono (by omega))
    clear m0 k3 k4 k5 c0 c1 f1 c2 f2
    obtain ⟨b1, e1⟩ : ∃ b, w.heap.size + 1 = b := ⟨_, rfl⟩
    obtain ⟨b2, e2⟩ : ∃ b, b1 + 1 = b := ⟨_, rfl⟩
    obtain ⟨b3, e3⟩ : ∃ b, b2 + 1 = b := ⟨_, rfl⟩
    obtain ⟨b4, e4⟩ : ∃ b, b3 + 1 = b := ⟨_, rfl⟩
    obtain ⟨b5, e5⟩ : ∃ b, b4 + 1 = b := ⟨_, rfl⟩
    obtain ⟨BS, e6⟩ : ∃ b, b5 + 1 = b := ⟨_, rfl⟩
    have hgl : 0 < w.heap.size := by
      obtain ⟨m, hm⟩ := HG.out.max
      exact cell_inside hm
    have hG2 := HG.out.below B2
    simp only [e1, e2, e3, e4, e5, e6] at hbx hz hB2 m2
    simp only [e1, e2, e3, e4, e5, e6]
    clear Bx zx
    refine split_range (bs := BS) (D := fun b => b = 0 ∨ (BS ≤ b ∧ b ≤ BS + 2)) (xs := Pl.linesL a0) h1 (by simp [Act.eval])
      (split_gives_crlf 2 (by decide) BS a0 (by omega) W2 hG2 (by omega) (by omega) hbx) (fun b hb => by rcases hb with rfl | hb <;> omega)
      (MI w.heap.size b1 b2 b3 b4 b5 BS a1 W2) (MX w.heap.size b1 b2 b3 b4 b5 BS a1 W2)
      (OwnFrom.and (Own.from (fun s A B row hs hg hr => by obtain ⟨s, vo, vl, q1, q2, q3⟩ := hs; exact ⟨s, vo, vl, q1, q2.walk hg hr, q3.walk hg hr⟩) _) (ownFrom_below B2.size (by omega)))
      (fun c => OwnFrom.and (Own.from (fun s A B row hs hg hr => by obtain ⟨q0, r, vr, vo, vl, bg, q1, q2, q3⟩ := hs; exact ⟨q0, r, vr, vo, vl, bg, q1, q2.walk hg hr, R_walk q3 hg hr⟩) _) (ownFrom_below B2.size (by omega)))
      (fun s A v hs => by
        obtain ⟨⟨s, vo, vl, q1, q2, q3⟩, q4⟩ := hs
        exact ⟨⟨s, vo, vl, q1, q2.far (by show b5 < BS; omega) _, q3.set (by show BS ≤ BS + 2; omega) _⟩, q4.setCell (p := ⟨BS, 0, none⟩) (by show w.heap.size ≤ BS; omega) _⟩)
      ⟨⟨_, _, _, rfl, m2, Two.nil _ _ _⟩, Below.refl _ W2⟩
      (fun x => { tmps := #[.string a0, .string a1, undef, .pointer (some ⟨w.heap.size, 0, none⟩), .pointer (some ⟨b1, 0, none⟩), .pointer (some ⟨b2, 0, none⟩), .pointer (some ⟨b3, 0, none⟩), .pointer (some ⟨b4, 0, none⟩), .pointer (some ⟨b5, 0, none⟩), .string x, undef, undef, .string a1, .bool true, .bool false, .string a0, .func (.func 133) #[] #[.pointer (some ⟨BS + 1, 0, none⟩), .pointer (some ⟨BS, 0, none⟩), .pointer (some ⟨BS + 2, 0, none⟩)], .string x, undef, undef, undef, undef, undef, undef, undef, undef, undef, undef, undef, undef, undef, undef, undef, undef, undef, undef, undef, undef, undef, undef, undef, undef, undef, undef, undef, undef, undef, undef, undef, undef, undef, undef, undef, undef], defers := [] }) ?assign ?body ?done ?stop
    case assign =>
      intro l x W K hK
      gi_wp2
      exact hK
    case body =>
      rintro l pre x W ⟨⟨s, vo, vl, q1, q2, q3⟩, hBW⟩ hpx
      have h11 : 1 ≤ 3 - 1 - 1 := by decide
      have hwz : BS + 3 ≤ W.heap.size := by have := hBW.size; omega
      have hx : x.size ≤ 1000000 := Nat.le_trans (cuts_size (mem_of_prefix hpx)) hs
      have hP := Pl.mimeparts_is x a1 (by omega) (by omega)
      have hC := Pl.mimecloses_is x a1 (by omega) (by omega)
      have hst : Pl.mrun a1 (pre ++ [x]) ([], [], false) = Pl.mstep a1 s x := by rw [Pl.mrun_snoc, q1]
      unfold Pl.mstep at hst
      obtain ⟨P, hPe⟩ : ∃ P, Pl.whatP x a1 = P := ⟨_, rfl⟩
      obtain ⟨C, hCe⟩ : ∃ C, Pl.whatC x a1 = C := ⟨_, rfl⟩
      rw [hPe] at hP hst
      rw [hCe] at hC hst
      have g0 := q2.c0
      gi_wp2
      refine wpIn_mono (Q := onlyN (fun a' W' => a' = { tmps := #[.string a0, .string a1, undef, .pointer (some ⟨w.heap.size, 0, none⟩), .pointer (some ⟨b1, 0, none⟩), .pointer (some ⟨b2, 0, none⟩), .pointer (some ⟨b3, 0, none⟩), .pointer (some ⟨b4, 0, none⟩), .pointer (some ⟨b5, 0, none⟩), .string x, .bool P, .bool C, .string a1, .bool true, .bool false, .string a0, .func (.func 133) #[] #[.pointer (some ⟨BS + 1, 0, none⟩), .pointer (some ⟨BS, 0, none⟩), .pointer (some ⟨BS + 2, 0, none⟩)], .string x, .string x, .string a1, .bool P, .string x, .string a1, .bool C, undef, undef, undef, undef, undef, undef, undef, undef, undef, undef, undef, undef, undef, undef, undef, undef, undef, undef, undef, undef, undef, undef, undef, undef, undef, undef, undef, undef, undef, undef], defers := [] } ∧ Below W.heap.size W W')) ?reg ?cont
      case reg =>
        have HY : Hid (∀ (W' W'' : World), Below W.heap.size W W' → Below W'.heap.size W' W'' → Aside0 (W''.cell? ⟨w.heap.size, 0, none⟩ = some (.string a1) ∧ Below W.heap.size W W'')) := fun W' W'' h1 h2 => ⟨((q2.below h1).below h2).c0, h1.trans (h2.mono h1.size)⟩
        have hcw : W.drew.cell? ⟨w.heap.size, 0, none⟩ = some (.string a1) := g0
        have hB0 : Below W.heap.size W W.drew := below_drew1 (Below.refl _ _)
        have hmix : Tryd.prog.follows Departure.mixedOrders = true := by kernel_rfl
        gi_region_with_o (first
          | (refine ⟨trivial, ?_⟩; gi_at_call 74; refine (CallsIn.inRound l (callsIn_wide.2 (mime_parts.calls x a1 P _ hP))).mono ?_; rintro e W4 ⟨rfl, hB4⟩; obtain ⟨c4, hB5⟩ := (HY.out _ W4 (by assumption) hB4).out)
          | (refine ⟨trivial, ?_⟩; gi_at_call 75; refine (CallsIn.inRound l (callsIn_wide.2 (mime_closes.calls x a1 C _ hC))).mono ?_; rintro e W6 ⟨rfl, hB6⟩; obtain ⟨c6, hB7⟩ := (HY.out _ W6 (by assumption) hB6).out))
        all_goals exact ⟨rfl, by assumption⟩
      case cont =>
        rintro e a' W' hn
        cases e with
        | normal =>
          obtain ⟨rfl, hB⟩ := hn
          have m := q2.below hB
          have t := q3.below hB
          have hBW' : Below w.heap.size W2 W' := hBW.trans (hB.mono (by have := hBW.size; have := B2.size; omega))
          have hw' := hB.size
          have hml := Pl.mrun_lines q1
          have hpl := prefix_len hpx
          have hcl : (Pl.linesL a0).length ≤ a0.size + 1 := cutsN_len _ _ _ _
          simp only [List.length_nil, Nat.zero_add] at hml
          clear q1 q2 q3 g0
          obtain ⟨so, sl, sb⟩ := s
          simp only at m t hml hst
          obtain ⟨Ao, co, rfl⟩ := Kd.R_slice t.o
          obtain ⟨Al, cl, rfl⟩ := Kd.R_slice t.l
          have c1 := m.c1
          have f1 := m.f1
          have c2 := m.c2
          have f2 := m.f2
          have c3 := m.c3
          have f3 := m.f3
          have c4 := m.c4
          have f4 := m.f4
          have c5 := m.c5
          have f5 := m.f5
          have ord := m.ord
          have TT := Aside0.mk t
          clear t
          rcases (show (P = false ∧ C = false) ∨ ¬ (P = false ∧ C = false) from Classical.em _) with hPC | hPC
          · obtain ⟨rfl, rfl⟩ := hPC
            rw [if_pos ⟨rfl, rfl⟩] at hst
            gi_wp2_with (gi_at_builtin; refine R_append_in (w0 := w) Kd.string w.heap.size rfl _ _ 32 9 (.string ⟨#[]⟩) 16 rfl rfl (by kernel_rfl) rfl (by decide) (by decide) (.slice Al sl.length cl) sl x [.string x] (fun k => BS + 2 < k ∧ some k ≠ (Value.slice Ao so.length co).ownBlock) (fun _ => False) rfl rfl (by first | rfl | exact rfl) (fun _ h => h.elim) (fun k hk => ⟨by omega, fun e => by have := R_lt TT.out.o k e.symm; omega⟩) TT.out.l (B2.trans hBW') (by omega) (by omega) ?_; intro v1 W3 hR3 hB3 hg3 hat3; have t3 := TT.out.pushL hR3 hg3 hat3; have m3 := m.grown hg3 (fun k hk => by have := (TT.out.l.1 k hk).1; omega); have c43 := m3.c4; have f43 := m3.f4; have hKO := keepsOthers_grown hg3 (fun k hk => R_cells TT.out.l k hk); have hKD : ∀ b, (b = 0 ∨ (BS ≤ b ∧ b ≤ BS + 2)) → W3.heap[b]? = W.heap[b]? := (fun b hb => by rw [hg3.block b (by rcases hb with rfl | hb <;> omega) (fun e => by have := (TT.out.l.1 b e.symm).1; rcases hb with rfl | hb <;> omega)]; exact hB.block b (by rcases hb with rfl | hb <;> omega)); have hB4 := hBW'.grown hg3 (by omega) (fun k hk => R_base TT.out.l k hk); obtain ⟨A3, c33, rfl⟩ := Kd.R_slice hR3; rw [show (sl ++ [x]).length = sl.length + 1 from List.length_append] at hR3 t3)
            exact ⟨((KeepsOthers.of_below hB).trans hKO).trans (KeepsOthers.setCell _ _ _), fun b hb => by rw [Below.heap_setCell _ _ _ _ (by show b ≠ b4; rcases hb with rfl | hb <;> omega)]; exact hKD b hb, ⟨_, _, _, hst, m3.set4 _, t3.set (by show b4 ≤ BS + 2; omega) _⟩, hB4.setCell (p := ⟨b4, 0, none⟩) (by show w.heap.size ≤ b4; omega) _⟩
          · rw [if_neg hPC] at hst
            cases sb with
            | true =>
              have hjz : ∀ y ∈ sl, y.size ≤ 1000000 := fun y hy => by
                rcases hml.2.2 y hy with h | h
                · simp at h
                · exact Nat.le_trans (cuts_size (hpx.subset (List.mem_append_left _ h))) hs
              have hjs := Pl.join_size hjz
              have hjm : sl.length * (1000000 + 2) ≤ 1000001 * (1000000 + 2) := Nat.mul_le_mul_right _ (by omega)
              have hjl : strings_Join.f sl (⟨#[13, 10]⟩ : ByteArray) = some (Pl.join sl Pl.crlfB) := by
                unfold strings_Join.f
                rw [if_pos (by omega), if_pos (show (Pl.join sl Pl.crlfB).size ≤ 140737488355328 by omega)]
              clear hjs hjm hjz
              have J0 := (Kd.R_reads TT.out.l)
              have hmix : Tryd.prog.follows Departure.mixedOrders = true := by kernel_rfl
              have HPC : (P = true ∧ C = true) ∨ (P = true ∧ C = false) ∨ (P = false ∧ C = true) := by revert hPC; cases P <;> cases C <;> simp
              clear hPC
              have JR : Hid (∀ W'' : World, W'' = W'.drew → Kd.C Kd.string W'' Al sl.length sl) := fun W'' e => by
                subst e
                obtain ⟨A_, c_, e1, e2, e3⟩ := J0
                injection e1 with e1 _ e4
                subst e1
                exact Kd.C_drew e3
              have JLE : sl.length ≤ cl := by
                obtain ⟨A_, c_, e1, e2, e3⟩ := J0
                injection e1 with e1 _ e4
                subst e4
                exact e2
              clear J0
              have J4 : Hid (∀ W4 : World, Below W'.drew.heap.size W'.drew W4 → Aside0 (MC w.heap.size b1 b2 b3 b4 b5 a1 W4 (.slice none 0 0) 0 (.slice Ao so.length co) (.slice Al sl.length cl) true ∧ Two w.heap.size (BS + 2) W4 (.slice Ao so.length co) (.slice Al sl.length cl) so sl ∧ Below W'.heap.size W' W4)) := fun W4 h4 => by
                have h4' : Below W'.heap.size W' W4 := (below_drew1 (Below.refl _ W')).trans h4
                exact ⟨m.below h4', TT.out.below h4', h4'⟩
              have cd3 : W'.drew.cell? ⟨b3, 0, none⟩ = _ := c3
              have cd4 : W'.drew.cell? ⟨b4, 0, none⟩ = _ := c4
              obtain ⟨PV, hPV⟩ : ∃ PV, PV = Value.bool P := ⟨_, rfl⟩
              obtain ⟨CV, hCV⟩ : ∃ CV, CV = Value.bool C := ⟨_, rfl⟩
              rcases HPC with ⟨rfl, rfl⟩ | ⟨rfl, rfl⟩ | ⟨rfl, rfl⟩
              all_goals
                gi_wp2
                refine wpIn_mono (Q := onlyN (fun a' W6 => ∃ (u25 u26 u27 u28 u38 : Value) (A5 : Option Addr) (c55 : Nat), a' = { tmps := #[.string a0, .string a1, undef, .pointer (some ⟨w.heap.size, 0, none⟩), .pointer (some ⟨b1, 0, none⟩), .pointer (some ⟨b2, 0, none⟩), .pointer (some ⟨b3, 0, none⟩), .pointer (some ⟨b4, 0, none⟩), .pointer (some ⟨b5, 0, none⟩), .string x, PV, CV, .string a1, .bool true, .bool false, .string a0, .func (.func 133) #[] #[.pointer (some ⟨BS + 1, 0, none⟩), .pointer (some ⟨BS, 0, none⟩), .pointer (some ⟨BS + 2, 0, none⟩)], .string x, .string x, .string a1, PV, .string x, .string a1, CV, PV, u25, u26, u27, u28, .bool false, undef, undef, undef, undef, .bool true, .slice Ao so.length co, .slice Al sl.length cl, .string (Pl.join sl Pl.crlfB), u38, .slice A5 (so.length + 1) c55, undef, undef, undef, undef, undef, undef, undef, undef, undef, undef, undef, undef, undef, undef], defers := [] } ∧ MC w.heap.size b1 b2 b3 b4 b5 a1 W6 (.slice none 0 0) 0 (.slice A5 (so.length + 1) c55) (.slice Al sl.length cl) true ∧ Two w.heap.size (BS + 2) W6 (.slice A5 (so.length + 1) c55) (.slice Al sl.length cl) (so ++ [Pl.join sl Pl.crlfB]) sl ∧ KeepsOthers W' W6 ∧ (∀ b, (b = 0 ∨ (BS ≤ b ∧ b ≤ BS + 2)) → W6.heap[b]? = W'.heap[b]?) ∧ Below w.heap.size W2 W6)) ?reg12 ?cont12
                case reg12 =>
                  refine wpIn_region_any hmix ?_
                  change wpAnyIn _ _ _ _ _ _ _ _ _ (World.drew _)
                  refine wpAnyIn_ready (rs := [0, 1]) (by kernel_rfl) (by decide) ?_
                  refine AllReadyIn.cons rfl (fun K hK => ?_) ?_
                  · go_simp
                    refine hK _ _ ?_
                    clear hK K
                    refine wpAnyIn_ready (rs := [1]) (by kernel_rfl) (by decide) ?_
                    refine AllReadyIn.cons rfl (fun K hK => ?_) ?_
                    · go_simp
                      refine hK _ _ ?_
                      clear hK K
                      refine wpAnyIn_ready (rs := [2]) (by kernel_rfl) (by decide) ?_
                      refine AllReadyIn.cons rfl (fun K hK => ?_) ?_
                      · go_simp
                        refine ⟨trivial, ?_⟩
                        refine (CallsIn.inRound l (callsIn_wide.2 (strings_Join.calls _ _ sl _ _ _ (JR.out _ rfl) JLE hjl))).mono ?_
                        rintro e W4 ⟨rfl, hB4⟩
                        obtain ⟨m4, t4, hB40⟩ := (J4.out W4 hB4).out
                        have c34 := m4.c3
                        have c3a : (W4.alloc (.cells #[.string (Pl.join sl Pl.crlfB)] 9)).cell? ⟨b3, 0, none⟩ = some (.slice Ao so.length co) := cell_on _ c34
                        refine hK _ _ ?_
                        clear hK K
                        refine wpAnyIn_ready (rs := [3]) (by kernel_rfl) (by decide) ?_
                        refine AllReadyIn.cons rfl (fun K hK => ?_) ?_
                        · go_simp
                          refine hK _ _ ?_
                          clear hK K
                          refine wpAnyIn_ready (rs := [4]) (by kernel_rfl) (by decide) ?_
                          refine BigFrame.allReadyIn_want rfl (by kernel_rfl) (fun K hK => ?_) ?_
                          · refine R_append_op (w0 := w) (W := W4) Kd.string w.heap.size _ _ 32 9 (.string ⟨#[]⟩) 16 rfl rfl (by kernel_rfl) rfl (by decide) (by decide) (.slice Ao so.length co) so (Pl.join sl Pl.crlfB) [.string (Pl.join sl Pl.crlfB)] (fun k => BS + 2 < k ∧ some k ≠ (Value.slice Al sl.length cl).ownBlock) (fun _ => False) rfl (by first | rfl | exact rfl) rfl (fun _ h => h.elim) (fun k hk => ⟨by have := hB40.size; omega, fun e => by have := R_lt t4.l k e.symm; omega⟩) t4.o ((B2.trans hBW').trans (hB40.mono (by omega))) (by have := hB40.size; omega) (by omega) ?_
                            intro v1 W5 hR5 hB5 hg5 hat5
                            have t5 := (t4.swap.pushL hR5 hg5 hat5).swap
                            have m5 := m4.grown hg5 (fun k hk => by have := (t4.o.1 k hk).1; omega)
                            have hKO5 : KeepsOthers W' W5 := (KeepsOthers.of_below hB40).trans (keepsOthers_grown hg5 (fun k hk => R_cells t4.o k hk))
                            have hKD5 : ∀ b, (b = 0 ∨ (BS ≤ b ∧ b ≤ BS + 2)) → W5.heap[b]? = W'.heap[b]? := fun b hb => by rw [hg5.block b (by have := hB40.size; rcases hb with rfl | hb <;> omega) (fun e => by have := (t4.o.1 b e.symm).1; rcases hb with rfl | hb <;> omega)]; exact hB40.block b (by rcases hb with rfl | hb <;> omega)
                            have hBB5 : Below w.heap.size W2 W5 := (hBW'.trans (hB40.mono (by omega))).grown hg5 (by have := hB40.size; omega) (fun k hk => R_base t4.o k hk)
                            obtain ⟨A5, c55, rfl⟩ := Kd.R_slice hR5
                            rw [show (so ++ [Pl.join sl Pl.crlfB]).length = so.length + 1 from List.length_append] at t5 ⊢
                            have c35 := m5.c3
                            have f35 := m5.f3
                            refine hK _ _ ?_
                            clear hK K
                            try simp only [Act.put, List.setIfInBounds_toArray, List.set_cons_zero, List.set_cons_succ]
                            refine wpAnyIn_ready (rs := [5]) (by kernel_rfl) (by decide) ?_
                            refine AllReadyIn.cons rfl (fun K hK => ?_) ?_
                            · go_simp
                              refine hK _ _ ?_
                              clear hK K
                              refine wpAnyIn_done (by kernel_rfl) ?_ _
                              exact ⟨_, _, _, _, _, A5, c55, by rw [hPV, hCV], m5.set3 _, t5.set (by show b3 ≤ BS + 2; omega) _, hKO5.trans (KeepsOthers.setCell _ _ _), fun b hb => by rw [Below.heap_setCell _ _ _ _ (by show b ≠ b3; rcases hb with rfl | hb <;> omega)]; exact hKD5 b hb, hBB5.setCell (p := ⟨b3, 0, none⟩) (by show w.heap.size ≤ b3; omega) _⟩
                            exact AllReadyIn.nil
                          exact AllReadyIn.nil
                        exact AllReadyIn.nil
                      exact AllReadyIn.nil
                    exact AllReadyIn.nil
                  refine AllReadyIn.cons rfl (fun K hK => ?_) ?_
                  · go_simp
                    refine hK _ _ ?_
                    clear hK K
                    refine wpAnyIn_ready (rs := [0, 2]) (by kernel_rfl) (by decide) ?_
                    refine AllReadyIn.cons rfl (fun K hK => ?_) ?_
                    · go_simp
                      refine hK _ _ ?_
                      clear hK K
                      refine wpAnyIn_ready (rs := [2]) (by kernel_rfl) (by decide) ?_
                      refine AllReadyIn.cons rfl (fun K hK => ?_) ?_
                      · go_simp
                        refine ⟨trivial, ?_⟩
                        refine (CallsIn.inRound l (callsIn_wide.2 (strings_Join.calls _ _ sl _ _ _ (JR.out _ rfl) JLE hjl))).mono ?_
                        rintro e W4 ⟨rfl, hB4⟩
                        obtain ⟨m4, t4, hB40⟩ := (J4.out W4 hB4).out
                        have c34 := m4.c3
                        have c3a : (W4.alloc (.cells #[.string (Pl.join sl Pl.crlfB)] 9)).cell? ⟨b3, 0, none⟩ = some (.slice Ao so.length co) := cell_on _ c34
                        refine hK _ _ ?_
                        clear hK K
                        refine wpAnyIn_ready (rs := [3]) (by kernel_rfl) (by decide) ?_
                        refine AllReadyIn.cons rfl (fun K hK => ?_) ?_
                        · go_simp
                          refine hK _ _ ?_
                          clear hK K
                          refine wpAnyIn_ready (rs := [4]) (by kernel_rfl) (by decide) ?_
                          refine BigFrame.allReadyIn_want rfl (by kernel_rfl) (fun K hK => ?_) ?_
                          · refine R_append_op (w0 := w) (W := W4) Kd.string w.heap.size _ _ 32 9 (.string ⟨#[]⟩) 16 rfl rfl (by kernel_rfl) rfl (by decide) (by decide) (.slice Ao so.length co) so (Pl.join sl Pl.crlfB) [.string (Pl.join sl Pl.crlfB)] (fun k => BS + 2 < k ∧ some k ≠ (Value.slice Al sl.length cl).ownBlock) (fun _ => False) rfl (by first | rfl | exact rfl) rfl (fun _ h => h.elim) (fun k hk => ⟨by have := hB40.size; omega, fun e => by have := R_lt t4.l k e.symm; omega⟩) t4.o ((B2.trans hBW').trans (hB40.mono (by omega))) (by have := hB40.size; omega) (by omega) ?_
                            intro v1 W5 hR5 hB5 hg5 hat5
                            have t5 := (t4.swap.pushL hR5 hg5 hat5).swap
                            have m5 := m4.grown hg5 (fun k hk => by have := (t4.o.1 k hk).1; omega)
                            have hKO5 : KeepsOthers W' W5 := (KeepsOthers.of_below hB40).trans (keepsOthers_grown hg5 (fun k hk => R_cells t4.o k hk))
                            have hKD5 : ∀ b, (b = 0 ∨ (BS ≤ b ∧ b ≤ BS + 2)) → W5.heap[b]? = W'.heap[b]? := fun b hb => by rw [hg5.block b (by have := hB40.size; rcases hb with rfl | hb <;> omega) (fun e => by have := (t4.o.1 b e.symm).1; rcases hb with rfl | hb <;> omega)]; exact hB40.block b (by rcases hb with rfl | hb <;> omega)
                            have hBB5 : Below w.heap.size W2 W5 := (hBW'.trans (hB40.mono (by omega))).grown hg5 (by have := hB40.size; omega) (fun k hk => R_base t4.o k hk)
                            obtain ⟨A5, c55, rfl⟩ := Kd.R_slice hR5
                            rw [show (so ++ [Pl.join sl Pl.crlfB]).length = so.length + 1 from List.length_append] at t5 ⊢
                            have c35 := m5.c3
                            have f35 := m5.f3
                            refine hK _ _ ?_
                            clear hK K
                            try simp only [Act.put, List.setIfInBounds_toArray, List.set_cons_zero, List.set_cons_succ]
                            refine wpAnyIn_ready (rs := [5]) (by kernel_rfl) (by decide) ?_
                            refine AllReadyIn.cons rfl (fun K hK => ?_) ?_
                            · go_simp
                              refine hK _ _ ?_
                              clear hK K
                              refine wpAnyIn_done (by kernel_rfl) ?_ _
                              exact ⟨_, _, _, _, _, A5, c55, by rw [hPV, hCV], m5.set3 _, t5.set (by show b3 ≤ BS + 2; omega) _, hKO5.trans (KeepsOthers.setCell _ _ _), fun b hb => by rw [Below.heap_setCell _ _ _ _ (by show b ≠ b3; rcases hb with rfl | hb <;> omega)]; exact hKD5 b hb, hBB5.setCell (p := ⟨b3, 0, none⟩) (by show w.heap.size ≤ b3; omega) _⟩
                            exact AllReadyIn.nil
                          exact AllReadyIn.nil
                        exact AllReadyIn.nil
                      exact AllReadyIn.nil
                    refine AllReadyIn.cons rfl (fun K hK => ?_) ?_
                    · go_simp
                      refine ⟨trivial, ?_⟩
                      refine (CallsIn.inRound l (callsIn_wide.2 (strings_Join.calls _ _ sl _ _ _ (JR.out _ rfl) JLE hjl))).mono ?_
                      rintro e W4 ⟨rfl, hB4⟩
                      obtain ⟨m4, t4, hB40⟩ := (J4.out W4 hB4).out
                      have c34 := m4.c3
                      have c3a : (W4.alloc (.cells #[.string (Pl.join sl Pl.crlfB)] 9)).cell? ⟨b3, 0, none⟩ = some (.slice Ao so.length co) := cell_on _ c34
                      refine hK _ _ ?_
                      clear hK K
                      refine wpAnyIn_ready (rs := [0, 3]) (by kernel_rfl) (by decide) ?_
                      refine AllReadyIn.cons rfl (fun K hK => ?_) ?_
                      · go_simp
                        refine hK _ _ ?_
                        clear hK K
                        refine wpAnyIn_ready (rs := [3]) (by kernel_rfl) (by decide) ?_
                        refine AllReadyIn.cons rfl (fun K hK => ?_) ?_
                        · go_simp
                          refine hK _ _ ?_
                          clear hK K
                          refine wpAnyIn_ready (rs := [4]) (by kernel_rfl) (by decide) ?_
                          refine BigFrame.allReadyIn_want rfl (by kernel_rfl) (fun K hK => ?_) ?_
                          · refine R_append_op (w0 := w) (W := W4) Kd.string w.heap.size _ _ 32 9 (.string ⟨#[]⟩) 16 rfl rfl (by kernel_rfl) rfl (by decide) (by decide) (.slice Ao so.length co) so (Pl.join sl Pl.crlfB) [.string (Pl.join sl Pl.crlfB)] (fun k => BS + 2 < k ∧ some k ≠ (Value.slice Al sl.length cl).ownBlock) (fun _ => False) rfl (by first | rfl | exact rfl) rfl (fun _ h => h.elim) (fun k hk => ⟨by have := hB40.size; omega, fun e => by have := R_lt t4.l k e.symm; omega⟩) t4.o ((B2.trans hBW').trans (hB40.mono (by omega))) (by have := hB40.size; omega) (by omega) ?_
                            intro v1 W5 hR5 hB5 hg5 hat5
                            have t5 := (t4.swap.pushL hR5 hg5 hat5).swap
                            have m5 := m4.grown hg5 (fun k hk => by have := (t4.o.1 k hk).1; omega)
                            have hKO5 : KeepsOthers W' W5 := (KeepsOthers.of_below hB40).trans (keepsOthers_grown hg5 (fun k hk => R_cells t4.o k hk))
                            have hKD5 : ∀ b, (b = 0 ∨ (BS ≤ b ∧ b ≤ BS + 2)) → W5.heap[b]? = W'.heap[b]? := fun b hb => by rw [hg5.block b (by have := hB40.size; rcases hb with rfl | hb <;> omega) (fun e => by have := (t4.o.1 b e.symm).1; rcases hb with rfl | hb <;> omega)]; exact hB40.block b (by rcases hb with rfl | hb <;> omega)
                            have hBB5 : Below w.heap.size W2 W5 := (hBW'.trans (hB40.mono (by omega))).grown hg5 (by have := hB40.size; omega) (fun k hk => R_base t4.o k hk)
                            obtain ⟨A5, c55, rfl⟩ := Kd.R_slice hR5
                            rw [show (so ++ [Pl.join sl Pl.crlfB]).length = so.length + 1 from List.length_append] at t5 ⊢
                            have c35 := m5.c3
                            have f35 := m5.f3
                            refine hK _ _ ?_
                            clear hK K
                            try simp only [Act.put, List.setIfInBounds_toArray, List.set_cons_zero, List.set_cons_succ]
                            refine wpAnyIn_ready (rs := [5]) (by kernel_rfl) (by decide) ?_
                            refine AllReadyIn.cons rfl (fun K hK => ?_) ?_
                            · go_simp
                              refine hK _ _ ?_
                              clear hK K
                              refine wpAnyIn_done (by kernel_rfl) ?_ _
                              exact ⟨_, _, _, _, _, A5, c55, by rw [hPV, hCV], m5.set3 _, t5.set (by show b3 ≤ BS + 2; omega) _, hKO5.trans (KeepsOthers.setCell _ _ _), fun b hb => by rw [Below.heap_setCell _ _ _ _ (by show b ≠ b3; rcases hb with rfl | hb <;> omega)]; exact hKD5 b hb, hBB5.setCell (p := ⟨b3, 0, none⟩) (by show w.heap.size ≤ b3; omega) _⟩
                            exact AllReadyIn.nil
                          exact AllReadyIn.nil
                        exact AllReadyIn.nil
                      refine AllReadyIn.cons rfl (fun K hK => ?_) ?_
                      · go_simp
                        refine hK _ _ ?_
                        clear hK K
                        refine wpAnyIn_ready (rs := [0]) (by kernel_rfl) (by decide) ?_
                        refine AllReadyIn.cons rfl (fun K hK => ?_) ?_
                        · go_simp
                          refine hK _ _ ?_
                          clear hK K
                          refine wpAnyIn_ready (rs := [4]) (by kernel_rfl) (by decide) ?_
                          refine BigFrame.allReadyIn_want rfl (by kernel_rfl) (fun K hK => ?_) ?_
                          · refine R_append_op (w0 := w) (W := W4) Kd.string w.heap.size _ _ 32 9 (.string ⟨#[]⟩) 16 rfl rfl (by kernel_rfl) rfl (by decide) (by decide) (.slice Ao so.length co) so (Pl.join sl Pl.crlfB) [.string (Pl.join sl Pl.crlfB)] (fun k => BS + 2 < k ∧ some k ≠ (Value.slice Al sl.length cl).ownBlock) (fun _ => False) rfl (by first | rfl | exact rfl) rfl (fun _ h => h.elim) (fun k hk => ⟨by have := hB40.size; omega, fun e => by have := R_lt t4.l k e.symm; omega⟩) t4.o ((B2.trans hBW').trans (hB40.mono (by omega))) (by have := hB40.size; omega) (by omega) ?_
                            intro v1 W5 hR5 hB5 hg5 hat5
                            have t5 := (t4.swap.pushL hR5 hg5 hat5).swap
                            have m5 := m4.grown hg5 (fun k hk => by have := (t4.o.1 k hk).1; omega)
                            have hKO5 : KeepsOthers W' W5 := (KeepsOthers.of_below hB40).trans (keepsOthers_grown hg5 (fun k hk => R_cells t4.o k hk))
                            have hKD5 : ∀ b, (b = 0 ∨ (BS ≤ b ∧ b ≤ BS + 2)) → W5.heap[b]? = W'.heap[b]? := fun b hb => by rw [hg5.block b (by have := hB40.size; rcases hb with rfl | hb <;> omega) (fun e => by have := (t4.o.1 b e.symm).1; rcases hb with rfl | hb <;> omega)]; exact hB40.block b (by rcases hb with rfl | hb <;> omega)
                            have hBB5 : Below w.heap.size W2 W5 := (hBW'.trans (hB40.mono (by omega))).grown hg5 (by have := hB40.size; omega) (fun k hk => R_base t4.o k hk)
                            obtain ⟨A5, c55, rfl⟩ := Kd.R_slice hR5
                            rw [show (so ++ [Pl.join sl Pl.crlfB]).length = so.length + 1 from List.length_append] at t5 ⊢
                            have c35 := m5.c3
                            have f35 := m5.f3
                            refine hK _ _ ?_
                            clear hK K
                            try simp only [Act.put, List.setIfInBounds_toArray, List.set_cons_zero, List.set_cons_succ]
                            refine wpAnyIn_ready (rs := [5]) (by kernel_rfl) (by decide) ?_
                            refine AllReadyIn.cons rfl (fun K hK => ?_) ?_
                            · go_simp
                              refine hK _ _ ?_
                              clear hK K
                              refine wpAnyIn_done (by kernel_rfl) ?_ _
                              exact ⟨_, _, _, _, _, A5, c55, by rw [hPV, hCV], m5.set3 _, t5.set (by show b3 ≤ BS + 2; omega) _, hKO5.trans (KeepsOthers.setCell _ _ _), fun b hb => by rw [Below.heap_setCell _ _ _ _ (by show b ≠ b3; rcases hb with rfl | hb <;> omega)]; exact hKD5 b hb, hBB5.setCell (p := ⟨b3, 0, none⟩) (by show w.heap.size ≤ b3; omega) _⟩
                            exact AllReadyIn.nil
                          exact AllReadyIn.nil
                        exact AllReadyIn.nil
                      exact AllReadyIn.nil
                    exact AllReadyIn.nil
                  exact AllReadyIn.nil
                case cont12 =>
                  clear J4 JR JLE hjl cd3 cd4 c1 f1 c2 f2 c3 f3 c4 f4 c5 f5
                  rintro e a' W6 hn
                  cases e with
                  | normal =>
                    subst hPV
                    subst hCV
                    obtain ⟨u25, u26, u27, u28, u38, A5, c55, rfl, m6, t6, hKO6, hKD6, hBB6⟩ := hn
                    have c1 := m6.c1
                    have f1 := m6.f1
                    have c2 := m6.c2
                    have f2 := m6.f2
                    have c3 := m6.c3
                    have f3 := m6.f3
                    have c4 := m6.c4
                    have f4 := m6.f4
                    have c5 := m6.c5
                    have f5 := m6.f5
                    have hKO7 := (KeepsOthers.of_below hB).trans hKO6
                    have hKD7 : ∀ b, (b = 0 ∨ (BS ≤ b ∧ b ≤ BS + 2)) → W6.heap[b]? = W.heap[b]? := fun b hb => (hKD6 b hb).trans (hB.block b (by rcases hb with rfl | hb <;> omega))
                    first
                      | (have hst' : Pl.mrun a1 (pre ++ [x]) ([], [], false) = .inr (so ++ [Pl.join sl Pl.crlfB], 0) := by simpa [Pl.mout] using hst
                         gi_wp2
                         exact ⟨((hKO7.trans (KeepsOthers.setCell _ _ _)).trans (KeepsOthers.setCell _ _ _)).trans (KeepsOthers.setCell _ _ _), ⟨rfl, _, _, _, _, _, hst', ((m6.set4 (.slice none 0 0)).set1 (.slice A5 (so.length + 1) c55)).set2 0, Kd.R_far (p := ⟨b2, 0, none⟩) (Kd.R_far (p := ⟨b1, 0, none⟩) (Kd.R_far (p := ⟨b4, 0, none⟩) (Kd.R_mono t6.o (fun k hk => hk.1)) (fun k hk => by show k ≠ b4; omega) _) (fun k hk => by show k ≠ b1; omega) _) (fun k hk => by show k ≠ b2; omega) _⟩, ((hBB6.setCell (p := ⟨b4, 0, none⟩) (by show w.heap.size ≤ b4; omega) _).setCell (p := ⟨b1, 0, none⟩) (by show w.heap.size ≤ b1; omega) _).setCell (p := ⟨b2, 0, none⟩) (by show w.heap.size ≤ b2; omega) _⟩)
                      | (by_cases h20 : so.length + 1 = 20
                         · have d1 : (((so.length + 1 : Nat) : Int) == 20) = true := by rw [beq_iff_eq]; omega
                           have d2 : ((so.length : Int) + 1 == 20) = true := by rw [beq_iff_eq]; omega
                           have hst' : Pl.mrun a1 (pre ++ [x]) ([], [], false) = .inr ([], 8) := by simpa [Pl.mout, h20] using hst
                           gi_wp2
                           exact ⟨((hKO7.trans (KeepsOthers.setCell _ _ _)).trans (KeepsOthers.setCell _ _ _)).trans (KeepsOthers.setCell _ _ _), ⟨rfl, _, _, _, _, _, hst', ((m6.set4 (.slice none 0 0)).set1 (.slice none 0 0)).set2 8, Kd.R_nil _ _ _ _ _⟩, ((hBB6.setCell (p := ⟨b4, 0, none⟩) (by show w.heap.size ≤ b4; omega) _).setCell (p := ⟨b1, 0, none⟩) (by show w.heap.size ≤ b1; omega) _).setCell (p := ⟨b2, 0, none⟩) (by show w.heap.size ≤ b2; omega) _⟩
                         · have d1 : (((so.length + 1 : Nat) : Int) == 20) = false := by rw [beq_eq_false_iff_ne]; omega
                           have d2 : ((so.length : Int) + 1 == 20) = false := by rw [beq_eq_false_iff_ne]; omega
                           have hst' : Pl.mrun a1 (pre ++ [x]) ([], [], false) = .inl (so ++ [Pl.join sl Pl.crlfB], [], true) := by simpa [Pl.mout, h20] using hst
                           gi_wp2
                           exact ⟨(hKO7.trans (KeepsOthers.setCell _ _ _)).trans (KeepsOthers.setCell _ _ _), fun b hb => by rw [Below.heap_setCell _ _ _ _ (by show b ≠ b5; rcases hb with rfl | hb <;> omega), Below.heap_setCell _ _ _ _ (by show b ≠ b4; rcases hb with rfl | hb <;> omega)]; exact hKD7 b hb, ⟨_, _, _, hst', (m6.set4 (.slice none 0 0)).set5 true, ((t6.reset).set (by show b4 ≤ BS + 2; omega) _).set (by show b5 ≤ BS + 2; omega) _⟩, (hBB6.setCell (p := ⟨b4, 0, none⟩) (by show w.heap.size ≤ b4; omega) _).setCell (p := ⟨b5, 0, none⟩) (by show w.heap.size ≤ b5; omega) _⟩)
                  | _ => exact hn.elim
            | false =>
              have hKD7 : ∀ b, (b = 0 ∨ (BS ≤ b ∧ b ≤ BS + 2)) → W'.heap[b]? = W.heap[b]? := fun b hb => hB.block b (by rcases hb with rfl | hb <;> omega)
              have HPC : (P = true ∧ C = true) ∨ (P = true ∧ C = false) ∨ (P = false ∧ C = true) := by revert hPC; cases P <;> cases C <;> simp
              clear hPC
              cases hPP : P with
              | true =>
                cases hCC : C with
                | true =>
                  have hst' : Pl.mrun a1 (pre ++ [x]) ([], [], false) = .inr ([], 6) := by rw [hCC] at hst; simpa [Pl.mout] using hst
                  gi_wp2
                  exact ⟨(((KeepsOthers.of_below hB).trans (KeepsOthers.setCell _ _ _)).trans (KeepsOthers.setCell _ _ _)).trans (KeepsOthers.setCell _ _ _), ⟨rfl, _, _, _, _, _, hst', ((m.set4 (.slice none 0 0)).set1 (.slice none 0 0)).set2 6, Kd.R_nil _ _ _ _ _⟩, ((hBW'.setCell (p := ⟨b4, 0, none⟩) (by show w.heap.size ≤ b4; omega) _).setCell (p := ⟨b1, 0, none⟩) (by show w.heap.size ≤ b1; omega) _).setCell (p := ⟨b2, 0, none⟩) (by show w.heap.size ≤ b2; omega) _⟩
                | false =>
                  by_cases h20 : so.length = 20
                  · have d1 : (((so.length : Nat) : Int) == 20) = true := by rw [beq_iff_eq]; omega
                    skip
                    have hst' : Pl.mrun a1 (pre ++ [x]) ([], [], false) = .inr ([], 8) := by rw [hCC] at hst; simpa [Pl.mout, h20] using hst
                    gi_wp2
                    exact ⟨(((KeepsOthers.of_below hB).trans (KeepsOthers.setCell _ _ _)).trans (KeepsOthers.setCell _ _ _)).trans (KeepsOthers.setCell _ _ _), ⟨rfl, _, _, _, _, _, hst', ((m.set4 (.slice none 0 0)).set1 (.slice none 0 0)).set2 8, Kd.R_nil _ _ _ _ _⟩, ((hBW'.setCell (p := ⟨b4, 0, none⟩) (by show w.heap.size ≤ b4; omega) _).setCell (p := ⟨b1, 0, none⟩) (by show w.heap.size ≤ b1; omega) _).setCell (p := ⟨b2, 0, none⟩) (by show w.heap.size ≤ b2; omega) _⟩
                  · have d1 : (((so.length : Nat) : Int) == 20) = false := by rw [beq_eq_false_iff_ne]; omega
                    skip
                    have hst' : Pl.mrun a1 (pre ++ [x]) ([], [], false) = .inl (so, [], true) := by rw [hCC] at hst; simpa [Pl.mout, h20] using hst
                    gi_wp2
                    exact ⟨((KeepsOthers.of_below hB).trans (KeepsOthers.setCell _ _ _)).trans (KeepsOthers.setCell _ _ _), fun b hb => by rw [Below.heap_setCell _ _ _ _ (by show b ≠ b5; rcases hb with rfl | hb <;> omega), Below.heap_setCell _ _ _ _ (by show b ≠ b4; rcases hb with rfl | hb <;> omega)]; exact hKD7 b hb, ⟨_, _, _, hst', (m.set4 (.slice none 0 0)).set5 true, ((TT.out.reset).set (by show b4 ≤ BS + 2; omega) _).set (by show b5 ≤ BS + 2; omega) _⟩, (hBW'.setCell (p := ⟨b4, 0, none⟩) (by show w.heap.size ≤ b4; omega) _).setCell (p := ⟨b5, 0, none⟩) (by show w.heap.size ≤ b5; omega) _⟩
              | false =>
                obtain rfl : C = true := by rcases HPC with ⟨h1, h2⟩ | ⟨h1, h2⟩ | ⟨h1, h2⟩ <;> simp_all
                have hst' : Pl.mrun a1 (pre ++ [x]) ([], [], false) = .inr ([], 6) := by simpa [Pl.mout] using hst
                gi_wp2
                exact ⟨(((KeepsOthers.of_below hB).trans (KeepsOthers.setCell _ _ _)).trans (KeepsOthers.setCell _ _ _)).trans (KeepsOthers.setCell _ _ _), ⟨rfl, _, _, _, _, _, hst', ((m.set4 (.slice none 0 0)).set1 (.slice none 0 0)).set2 6, Kd.R_nil _ _ _ _ _⟩, ((hBW'.setCell (p := ⟨b4, 0, none⟩) (by show w.heap.size ≤ b4; omega) _).setCell (p := ⟨b1, 0, none⟩) (by show w.heap.size ≤ b1; omega) _).setCell (p := ⟨b2, 0, none⟩) (by show w.heap.size ≤ b2; omega) _⟩
                
        | _ => exact hn.elim
    case done =>
      rintro d W hd ⟨⟨s, vo, vl, q1, q2, q3⟩, hBW⟩ hK
      have hsp : Pl.mimeSplit a0 a1 = if s.2.2 = true then ([], 9) else ([], 6) := by
        unfold Pl.mimeSplit Pl.splitR
        rw [if_pos hb, q1]
      have g1 := q2.c1
      have g2 := q2.c2
      have g3 := q2.f1
      have g4 := q2.f2
      have g5 := q2.c5
      have o := q2.ord
      cases hbg : s.2.2 with
      | true =>
        rw [hbg] at g5
        rw [if_pos hbg] at hsp
        gi_wp2
        have m3 := (q2.set1 (.slice none 0 0)).set2 9
        have hK' := ((KeepsOthers.setCell W ⟨b1, 0, none⟩ (.slice none 0 0)).trans (KeepsOthers.setCell _ ⟨b2, 0, none⟩ (.int .i64 9))).same d _ hK rfl
        refine ⟨by simp, .inl ⟨_, _, rfl, run_takeDeferred hK', ?_⟩⟩
        have hc5 := cell_kept m3.c1 (grownBy_putObj' _ d (.deferred none)) (fun r e => by cases e; exact ⟨_, hK', rfl⟩)
        have hc6 := cell_kept m3.c2 (grownBy_putObj' _ d (.deferred none)) (fun r e => by cases e; exact ⟨_, hK', rfl⟩)
        have hfin := HR.out
        rw [hsp] at hfin
        simp only [Prod.mk.injEq] at hfin
        obtain ⟨rfl, rfl⟩ := hfin
        refine ⟨.tuple #[.slice none 0 0, .int .i64 9], ?_, _, rfl, Kd.R_nil _ _ _ _ _, (((B2.trans hBW).setCell (p := ⟨b1, 0, none⟩) (by show w.heap.size ≤ b1; omega) _).setCell (p := ⟨b2, 0, none⟩) (by show w.heap.size ≤ b2; omega) _).trans (belowK_b (w := w) (Nat.le_refl _) _ d _ _ (by omega) hK' rfl rfl)⟩
        simp [results, Tryd.f38, go_sem, hc5, hc6]
      | false =>
        rw [hbg] at g5
        rw [if_neg (by rw [hbg]; simp)] at hsp
        gi_wp2
        have m3 := (q2.set1 (.slice none 0 0)).set2 6
        have hK' := ((KeepsOthers.setCell W ⟨b1, 0, none⟩ (.slice none 0 0)).trans (KeepsOthers.setCell _ ⟨b2, 0, none⟩ (.int .i64 6))).same d _ hK rfl
        refine ⟨by simp, .inl ⟨_, _, rfl, run_takeDeferred hK', ?_⟩⟩
        have hc5 := cell_kept m3.c1 (grownBy_putObj' _ d (.deferred none)) (fun r e => by cases e; exact ⟨_, hK', rfl⟩)
        have hc6 := cell_kept m3.c2 (grownBy_putObj' _ d (.deferred none)) (fun r e => by cases e; exact ⟨_, hK', rfl⟩)
        have hfin := HR.out
        rw [hsp] at hfin
        simp only [Prod.mk.injEq] at hfin
        obtain ⟨rfl, rfl⟩ := hfin
        refine ⟨.tuple #[.slice none 0 0, .int .i64 6], ?_, _, rfl, Kd.R_nil _ _ _ _ _, (((B2.trans hBW).setCell (p := ⟨b1, 0, none⟩) (by show w.heap.size ≤ b1; omega) _).setCell (p := ⟨b2, 0, none⟩) (by show w.heap.size ≤ b2; omega) _).trans (belowK_b (w := w) (Nat.le_refl _) _ d _ _ (by omega) hK' rfl rfl)⟩
        simp [results, Tryd.f38, go_sem, hc5, hc6]
    case stop =>
      rintro d c pre W hd hpre ⟨⟨rfl, r, vr, vo, vl, bg, q1, q2, q3⟩, hBW⟩ hK
      have q1' := Pl.mrun_prefix hpre q1
      have hsp : Pl.mimeSplit a0 a1 = r := by
        unfold Pl.mimeSplit Pl.splitR
        rw [if_pos hb, q1']
      gi_wp2
      refine ⟨by simp, .inl ⟨_, _, rfl, run_takeDeferred hK, ?_⟩⟩
      obtain ⟨A', c', rfl⟩ := Kd.R_slice q3
      have hc5 := cell_kept q2.c1 (grownBy_putObj' _ d (.deferred none)) (fun r e => by cases e; exact ⟨_, hK, rfl⟩)
      have hc6 := cell_kept q2.c2 (grownBy_putObj' _ d (.deferred none)) (fun r e => by cases e; exact ⟨_, hK, rfl⟩)
      have hR5 := R_walk q3 (grownBy_putObj' _ d (.deferred none)) (fun r e => by cases e; exact ⟨_, hK, rfl⟩)
      have hfin := HR.out
      rw [hsp] at hfin
      obtain ⟨x1, x2⟩ := r
      simp only [Prod.mk.injEq] at hfin
      obtain ⟨rfl, rfl⟩ := hfin
      refine ⟨.tuple #[.slice A' x1.length c', .int .i64 x2], ?_, _, rfl, Kd.R_mono hR5 (fun _ _ => trivial), (B2.trans hBW).trans (belowK_b (w := w) (Nat.le_refl _) W d _ _ (by omega) hK rfl rfl)⟩
      simp [results, Tryd.f38, go_sem, hc5, hc6]
end Go.Proofs.YtoikneogdbdplaaDoor.Fn
namespace Go.Proofs.YtoikneogdbdplaaDoor.Fn
open Go.RowKit Go.Proofs.YtoikneogdbdplaaDoorW.PrintWords Go.Proofs.YtoikneogdbdplaaDoorW.PrintLast Go.Proofs.YtoikneogdbdplaaDoorW.PrintMore
attribute [local go_sem] max2_int min2_int max_two min_two max_three min_three max_four min_four
set_option linter.unusedVariables false
set_option linter.unusedSimpArgs false

def bulletinlaw20_works.f (k : Nat)  : Option (Bool) := (mime_ReadType.f k (⟨#[84, 101, 120, 116, 47, 80, 108, 97, 105, 110, 59, 32, 67, 104, 97, 114, 115, 101, 116, 61, 34, 120, 32, 121, 34]⟩ : ByteArray)).bind fun bt398 => ((mime_Type_Value.f k bt398.1 bt398.2.1 (⟨#[67, 72, 65, 82, 83, 69, 84]⟩ : ByteArray)).bind fun bt404 => ((mime_Split.f (⟨#[45, 45, 98, 13, 10, 120, 13, 10, 45, 45, 98, 45, 45, 13, 10]⟩ : ByteArray) (⟨#[98]⟩ : ByteArray)).bind fun bt406 => (if bt398.2.2 = 0 then (if bt398.1.toList = ([116, 101, 120, 116, 47, 112, 108, 97, 105, 110] : List UInt8) then (if bt404.1.toList = ([120, 32, 121] : List UInt8) then (if bt404.2 = true then ((mime_Type_Text.f k bt398.1 bt398.2.1).bind fun t410 => (if t410.toList = ([116, 101, 120, 116, 47, 112, 108, 97, 105, 110, 59, 32, 99, 104, 97, 114, 115, 101, 116, 61, 34, 120, 32, 121, 34] : List UInt8) then (if bt406.2 = 0 then (if (bt406.1.length : Int) = 1 then (if 0 < (bt406.1.length : Int) then (some ((rdOf ByteArray.empty bt406.1 0).toList == ([120] : List UInt8))) else (none)) else (some false)) else (some false)) else (some false))) else (some false)) else (some false)) else (some false)) else (some false))))
theorem bulletinlaw20_works.mono : ∀ k, LeO (bulletinlaw20_works.f k ) (bulletinlaw20_works.f (k + 1) ) := by
 intro  k; unfold bulletinlaw20_works.f
 repeat' first
   | (with_reducible exact mime_ReadType.mono _ _)
   | (with_reducible exact mime_Type_Text.mono _ _ _)
   | (with_reducible exact mime_Type_Value.mono _ _ _ _)
   | (with_reducible exact LeO.refl _)
   | (with_reducible exact LeO.none _)
   | (with_reducible refine LeO.ite ?_ ?_)
   | (with_reducible refine LeO.bind ?_ (fun _ => ?_))
   | exact mime_ReadType.mono _ _
   | exact mime_Type_Text.mono _ _ _
   | exact mime_Type_Value.mono _ _ _ _
   | exact LeO.none _
   | refine LeO.ite ?_ ?_
   | refine LeO.bind ?_ (fun _ => ?_)
set_option maxHeartbeats 8000000 in
set_option maxRecDepth 100000 in
theorem bulletinlaw20_works.calls (k : Nat)  (r : Bool) (w : World) (hG : Glob w) (h : bulletinlaw20_works.f k  = some r) :
  Calls Tryd.prog 26 #[] w fun e w' => e = .returned (.bool r) ∧ Below w.heap.size w w' := by
 have hu51 := Tryd.underlying51; have HB := Aside0.mk (Below.refl w.heap.size w); have H : ((mime_ReadType.f k (⟨#[84, 101, 120, 116, 47, 80, 108, 97, 105, 110, 59, 32, 67, 104, 97, 114, 115, 101, 116, 61, 34, 120, 32, 121, 34]⟩ : ByteArray)).bind fun bt398 => ((mime_Type_Value.f k bt398.1 bt398.2.1 (⟨#[67, 72, 65, 82, 83, 69, 84]⟩ : ByteArray)).bind fun bt404 => ((mime_Split.f (⟨#[45, 45, 98, 13, 10, 120, 13, 10, 45, 45, 98, 45, 45, 13, 10]⟩ : ByteArray) (⟨#[98]⟩ : ByteArray)).bind fun bt406 => (if bt398.2.2 = 0 then (if bt398.1.toList = ([116, 101, 120, 116, 47, 112, 108, 97, 105, 110] : List UInt8) then (if bt404.1.toList = ([120, 32, 121] : List UInt8) then (if bt404.2 = true then ((mime_Type_Text.f k bt398.1 bt398.2.1).bind fun t410 => (if t410.toList = ([116, 101, 120, 116, 47, 112, 108, 97, 105, 110, 59, 32, 99, 104, 97, 114, 115, 101, 116, 61, 34, 120, 32, 121, 34] : List UInt8) then (if bt406.2 = 0 then (if (bt406.1.length : Int) = 1 then (if 0 < (bt406.1.length : Int) then (some ((rdOf ByteArray.empty bt406.1 0).toList == ([120] : List UInt8))) else (none)) else (some false)) else (some false)) else (some false))) else (some false)) else (some false)) else (some false)) else (some false))))) = some r := h; clear h; replace H := Option.bind_eq_some_iff.mp H; obtain ⟨⟨t398, t399, t402⟩, A10, H⟩ := H; replace H : ((mime_Type_Value.f k t398 t399 (⟨#[67, 72, 65, 82, 83, 69, 84]⟩ : ByteArray)).bind fun bt404 => ((mime_Split.f (⟨#[45, 45, 98, 13, 10, 120, 13, 10, 45, 45, 98, 45, 45, 13, 10]⟩ : ByteArray) (⟨#[98]⟩ : ByteArray)).bind fun bt406 => (if t402 = 0 then (if t398.toList = ([116, 101, 120, 116, 47, 112, 108, 97, 105, 110] : List UInt8) then (if bt404.1.toList = ([120, 32, 121] : List UInt8) then (if bt404.2 = true then ((mime_Type_Text.f k t398 t399).bind fun t410 => (if t410.toList = ([116, 101, 120, 116, 47, 112, 108, 97, 105, 110, 59, 32, 99, 104, 97, 114, 115, 101, 116, 61, 34, 120, 32, 121, 34] : List UInt8) then (if bt406.2 = 0 then (if (bt406.1.length : Int) = 1 then (if 0 < (bt406.1.length : Int) then (some ((rdOf ByteArray.empty bt406.1 0).toList == ([120] : List UInt8))) else (none)) else (some false)) else (some false)) else (some false))) else (some false)) else (some false)) else (some false)) else (some false)))) = some r := H; have A1 := Aside0.mk A10; clear A10; replace H := Option.bind_eq_some_iff.mp H; obtain ⟨⟨t404, t405⟩, A20, H⟩ := H; replace H : ((mime_Split.f (⟨#[45, 45, 98, 13, 10, 120, 13, 10, 45, 45, 98, 45, 45, 13, 10]⟩ : ByteArray) (⟨#[98]⟩ : ByteArray)).bind fun bt406 => (if t402 = 0 then (if t398.toList = ([116, 101, 120, 116, 47, 112, 108, 97, 105, 110] : List UInt8) then (if t404.toList = ([120, 32, 121] : List UInt8) then (if t405 = true then ((mime_Type_Text.f k t398 t399).bind fun t410 => (if t410.toList = ([116, 101, 120, 116, 47, 112, 108, 97, 105, 110, 59, 32, 99, 104, 97, 114, 115, 101, 116, 61, 34, 120, 32, 121, 34] : List UInt8) then (if bt406.2 = 0 then (if (bt406.1.length : Int) = 1 then (if 0 < (bt406.1.length : Int) then (some ((rdOf ByteArray.empty bt406.1 0).toList == ([120] : List UInt8))) else (none)) else (some false)) else (some false)) else (some false))) else (some false)) else (some false)) else (some false)) else (some false))) = some r := H; have A2 := Aside0.mk A20; clear A20; replace H := Option.bind_eq_some_iff.mp H; obtain ⟨⟨t406, t407⟩, A30, H⟩ := H; replace H : (if t402 = 0 then (if t398.toList = ([116, 101, 120, 116, 47, 112, 108, 97, 105, 110] : List UInt8) then (if t404.toList = ([120, 32, 121] : List UInt8) then (if t405 = true then ((mime_Type_Text.f k t398 t399).bind fun t410 => (if t410.toList = ([116, 101, 120, 116, 47, 112, 108, 97, 105, 110, 59, 32, 99, 104, 97, 114, 115, 101, 116, 61, 34, 120, 32, 121, 34] : List UInt8) then (if t407 = 0 then (if (t406.length : Int) = 1 then (if 0 < (t406.length : Int) then (some ((rdOf ByteArray.empty t406 0).toList == ([120] : List UInt8))) else (none)) else (some false)) else (some false)) else (some false))) else (some false)) else (some false)) else (some false)) else (some false)) = some r := H; have A3 := Aside0.mk A30; clear A30
 by_cases c4 : t402 = 0
 ·rw [if_pos c4] at H; have c4b0 : (t402 == 0) = true := beq_iff_eq.mpr c4; have c4b1 : (t402 != 0) = false := bne_eq_false_iff_eq.mpr c4; clear c4
  by_cases c5 : t398.toList = ([116, 101, 120, 116, 47, 112, 108, 97, 105, 110] : List UInt8)
  ·rw [if_pos c5] at H; have c5b0 : (t398.toList == ([116, 101, 120, 116, 47, 112, 108, 97, 105, 110] : List UInt8)) = true := beq_iff_eq.mpr c5; have c5b1 : (t398.toList != ([116, 101, 120, 116, 47, 112, 108, 97, 105, 110] : List UInt8)) = false := bne_eq_false_iff_eq.mpr c5; clear c5
   by_cases c6 : t404.toList = ([120, 32, 121] : List UInt8)
   ·rw [if_pos c6] at H; have c6b0 : (t404.toList == ([120, 32, 121] : List UInt8)) = true := beq_iff_eq.mpr c6; have c6b1 : (t404.toList != ([120, 32, 121] : List UInt8)) = false := bne_eq_false_iff_eq.mpr c6; clear c6
    by_cases c7 : t405 = true
    ·subst c7; have H1 : ((mime_Type_Text.f k t398 t399).bind fun t410 => (if t410.toList = ([116, 101, 120, 116, 47, 112, 108, 97, 105, 110, 59, 32, 99, 104, 97, 114, 115, 101, 116, 61, 34, 120, 32, 121, 34] : List UInt8) then (if t407 = 0 then (if (t406.length : Int) = 1 then (if 0 < (t406.length : Int) then (some ((rdOf ByteArray.empty t406 0).toList == ([120] : List UInt8))) else (none)) else (some false)) else (some false)) else (some false))) = some r := by rw [if_pos rfl] at H; exact H
     clear H; have H := H1; clear H1; replace H := Option.bind_eq_some_iff.mp H; obtain ⟨t410, A80, H⟩ := H; replace H : (if t410.toList = ([116, 101, 120, 116, 47, 112, 108, 97, 105, 110, 59, 32, 99, 104, 97, 114, 115, 101, 116, 61, 34, 120, 32, 121, 34] : List UInt8) then (if t407 = 0 then (if (t406.length : Int) = 1 then (if 0 < (t406.length : Int) then (some ((rdOf ByteArray.empty t406 0).toList == ([120] : List UInt8))) else (none)) else (some false)) else (some false)) else (some false)) = some r := H; have A8 := Aside0.mk A80; clear A80
     by_cases c9 : t410.toList = ([116, 101, 120, 116, 47, 112, 108, 97, 105, 110, 59, 32, 99, 104, 97, 114, 115, 101, 116, 61, 34, 120, 32, 121, 34] : List UInt8)
     ·rw [if_pos c9] at H; have c9b0 : (t410.toList == ([116, 101, 120, 116, 47, 112, 108, 97, 105, 110, 59, 32, 99, 104, 97, 114, 115, 101, 116, 61, 34, 120, 32, 121, 34] : List UInt8)) = true := beq_iff_eq.mpr c9; have c9b1 : (t410.toList != ([116, 101, 120, 116, 47, 112, 108, 97, 105, 110, 59, 32, 99, 104, 97, 114, 115, 101, 116, 61, 34, 120, 32, 121, 34] : List UInt8)) = false := bne_eq_false_iff_eq.mpr c9; clear c9
      by_cases c10 : t407 = 0
      ·rw [if_pos c10] at H; have c10b0 : (t407 == 0) = true := beq_iff_eq.mpr c10; have c10b1 : (t407 != 0) = false := bne_eq_false_iff_eq.mpr c10; clear c10
       by_cases c11 : (t406.length : Int) = 1
       ·rw [if_pos c11] at H; have c11b0 : ((t406.length : Int) == 1) = true := beq_iff_eq.mpr c11; have c11b1 : ((t406.length : Int) != 1) = false := bne_eq_false_iff_eq.mpr c11; clear c11
        by_cases c12 : 0 < (t406.length : Int)
        ·rw [if_pos c12] at H; have c12b0 : decide (0 < (t406.length : Int)) = true := decide_eq_true c12; have c12b1 : decide (0 < t406.length) = true := decide_eq_true (by omega); clear c12; obtain rfl := Option.some.inj H
         go_enter Tryd.func26, Tryd.ntmps26
         go_wp2_with (first | ((with_reducible refine gate_callee (f := 27) rfl ?_); refine goesL_ (some 8) rfl rfl Tryd.func27 (by kernel_rfl) rfl #[.string (⟨#[84, 101, 120, 116, 47, 80, 108, 97, 105, 110, 59, 32, 67, 104, 97, 114, 115, 101, 116, 61, 34, 120, 32, 121, 34]⟩ : ByteArray)] rfl am ?_; (with_reducible refine (mime_ReadType.calls (hG := by first | exact hG | exact Glob.below hG (by first | exact HB.out | (repeat (first | (with_reducible first | exact HB.out | apply below_alloc | apply pw_below_drewN | apply below_drew1 | refine below_set ?_ GE403.out) | exact HB.out))) | exact Glob.drawn hG (d0)) k (⟨#[84, 101, 120, 116, 47, 80, 108, 97, 105, 110, 59, 32, 67, 104, 97, 114, 115, 101, 116, 61, 34, 120, 32, 121, 34]⟩ : ByteArray) t398 t399 t402 _ A1.out).mono ?_); rintro e w13 ⟨v400, rfl, ho0, hb⟩; refine ⟨_, rfl, ?_⟩; have n0_ := Aside0.mk (Kd.R_lower ho0 (below_size bw)); have n1_ := Aside0.mk (below_step bw hb); clear HB; have HO401 := n0_; have HB := n1_; clear n0_ n1_; (try clear hb); (try clear hb2); (try clear hk); (try clear hi); (try clear ho0)) | ((with_reducible refine gate_dst (N := 1) rfl ?_); (try (refine gate_guard (by rfl) ?_; dsimp only)); refine box_event ?hg (N := 1) ?hd (cs := #[.string (⟨#[]⟩ : ByteArray), .slice none 0 0]) (t := 51) ?hr ?_; (case hd => rfl); (case hg => rfl); (case hr => first | (go_simp; done) | (go_simp; rfl)); intro gb403 hg w14 hbox hb; have n0_ := Aside0.mk (Kd.R_below (ra HO401.out) hb); have n1_ := Aside0.mk (below_step bw hb); have n2_ := Aside0.mk (hbox); have n3_ := Aside0.mk ((by rw [hg]; exact (below_size bw) : w.heap.size ≤ gb403)); have n4_ := Aside0.mk ((by rw [hg]; exact (below_size bw) : w.heap.size ≤ gb403)); clear HO401; clear HB; have HO401 := n0_; have HB := n1_; have BK403 := n2_; have GW403 := n3_; have GE403 := n4_; clear n0_ n1_ n2_ n3_ n4_; clear hb hbox hg; have hcz15_0 : w14.cell? ⟨gb403, 0, none⟩ = some (.string (⟨#[]⟩ : ByteArray)) := (blk_cell BK403.out 0).trans rfl; have hcz15_1 : w14.cell? ⟨gb403, 1, none⟩ = some (.slice none 0 0) := (blk_cell BK403.out 1).trans rfl; have hfz15_0 := blk_frozen BK403.out 0; have hfz15_1 := blk_frozen BK403.out 1; obtain ⟨Ao16, co16, eo16⟩ := Kd.R_slice HO401.out; subst eo16) | ((with_reducible refine gate_callee (f := 31) rfl ?_); refine goesL_ (some 13) rfl rfl Tryd.func31 (by kernel_rfl) rfl #[.agg #[.string t398, .slice Ao16 t399.length co16], .string (⟨#[67, 72, 65, 82, 83, 69, 84]⟩ : ByteArray)] rfl am ?_; (with_reducible refine (mime_Type_Value.calls k t398 _ _ t399 (⟨#[67, 72, 65, 82, 83, 69, 84]⟩ : ByteArray) t404 true _ ?side1 ?side2 A2.out).mono ?_); (case side1 => refine (Kd.R_reads' (e := 104) (base := w.heap.size) (ok := fun k_ => True) (n := t399.length) (c := co16) ?_).2.2; exact (by (with_reducible repeat (first | apply Kd.R_alloc | apply Kd.R_drewN | apply Kd.R_drew)); exact (Kd.R_mono (Kd.R_far (p := ⟨gb403, 1, none⟩) (Kd.R_far (p := ⟨gb403, 0, none⟩) (Kd.R_types HO401.out BK403.out (by decide)) (fun _ hk => hk.2) (.string t398)) (fun _ hk => hk.2) (.slice Ao16 t399.length co16)) (fun _ h_ => h_.1)))); (case side2 => exact (Kd.R_reads' HO401.out).2.1); rintro e w17 ⟨rfl, hb⟩; refine ⟨_, rfl, ?_⟩; have n0_ := Aside0.mk (Kd.R_below (by (with_reducible repeat (first | apply Kd.R_alloc | apply Kd.R_drewN | apply Kd.R_drew)); exact (Kd.R_mono (Kd.R_far (p := ⟨gb403, 1, none⟩) (Kd.R_far (p := ⟨gb403, 0, none⟩) (Kd.R_types HO401.out BK403.out (by decide)) (fun _ hk => hk.2) (.string t398)) (fun _ hk => hk.2) (.slice Ao16 t399.length co16)) (fun _ h_ => h_.1))) hb); have n1_ := Aside0.mk (blk_below (g := gb403) (o := .cells #[.string t398, .slice Ao16 t399.length co16] 51 (0, 0)) (by (with_reducible repeat (first | refine blk_drewN ?_ _ | refine blk_drew ?_ | refine blk_alloc ?_ _)); refine blk_put (cs := #[.string t398, .slice none 0 0]) ?_ 1 _ rfl; (with_reducible repeat (first | refine blk_drewN ?_ _ | refine blk_drew ?_ | refine blk_alloc ?_ _)); exact blk_put (cs := #[.string (⟨#[]⟩ : ByteArray), .slice none 0 0]) bk 0 _ rfl) hb); have n2_ := Aside0.mk (below_step bwS hb); clear HO401; clear BK403; clear HB; have HO401 := n0_; have BK403 := n1_; have HB := n2_; clear n0_ n1_ n2_; (try clear hb); (try clear hb2); (try clear hk); (try clear hi)) | ((with_reducible refine gate_callee (f := 38) rfl ?_); refine goesL_ (some 17) rfl rfl Tryd.func38 (by kernel_rfl) rfl #[.string (⟨#[45, 45, 98, 13, 10, 120, 13, 10, 45, 45, 98, 45, 45, 13, 10]⟩ : ByteArray), .string (⟨#[98]⟩ : ByteArray)] rfl am ?_; (with_reducible refine (mime_Split.calls (hG := by first | exact hG | exact Glob.below hG (by first | exact HB.out | (repeat (first | (with_reducible first | exact HB.out | apply below_alloc | apply pw_below_drewN | apply below_drew1 | refine below_set ?_ GE403.out) | exact HB.out))) | exact Glob.drawn hG (d0)) (⟨#[45, 45, 98, 13, 10, 120, 13, 10, 45, 45, 98, 45, 45, 13, 10]⟩ : ByteArray) (⟨#[98]⟩ : ByteArray) t406 t407 _ A3.out).mono ?_); rintro e w18 ⟨v408, rfl, ho0, hb⟩; refine ⟨_, rfl, ?_⟩; have n0_ := Aside0.mk (Kd.R_below (ra HO401.out) hb); have n1_ := Aside0.mk (Kd.R_lower ho0 (below_size bwS)); have n2_ := Aside0.mk (blk_below (g := gb403) (o := .cells #[.string t398, .slice Ao16 t399.length co16] 51 (0, 0)) bk hb); have n3_ := Aside0.mk (below_step bwS hb); clear HO401; clear BK403; clear HB; have HO401 := n0_; have HO409 := n1_; have BK403 := n2_; have HB := n3_; clear n0_ n1_ n2_ n3_; (try clear hb); (try clear hb2); (try clear hk); (try clear hi); (try clear ho0); have hcz19_0 : w18.cell? ⟨gb403, 0, none⟩ = some (.string t398) := (blk_cell BK403.out 0).trans rfl; have hcz19_1 : w18.cell? ⟨gb403, 1, none⟩ = some (.slice Ao16 t399.length co16) := (blk_cell BK403.out 1).trans rfl; have hfz19_0 := blk_frozen BK403.out 0; have hfz19_1 := blk_frozen BK403.out 1) | (go_at_call 33; (with_reducible refine (mime_Type_Text.calls (hG := by first | exact hG | exact Glob.below hG (by first | exact HB.out | (repeat (first | (with_reducible first | exact HB.out | apply below_alloc | apply pw_below_drewN | apply below_drew1 | refine below_set ?_ GE403.out) | exact HB.out))) | exact Glob.drawn hG (d0)) k t398 _ _ t399 t410 _ ?side1 ?side2 A8.out).mono ?_); (case side1 => repeat (first | exact (Kd.R_reads' HO401.out).2.2 | (with_reducible refine Kd.C_alloc ?_ _) | (with_reducible refine Kd.C_drewN ?_ _) | (with_reducible refine Kd.C_drew ?_))); (case side2 => exact (Kd.R_reads' HO401.out).2.1); rintro e w20 ⟨rfl, hb⟩; have n0_ := Aside0.mk (Kd.R_below (ra HO401.out) hb); have n1_ := Aside0.mk (Kd.R_below (ra HO409.out) hb); have n2_ := Aside0.mk (blk_below (g := gb403) (o := .cells #[.string t398, .slice Ao16 t399.length co16] 51 (0, 0)) bk hb); have n3_ := Aside0.mk (below_step bwS hb); clear HO401; clear HO409; clear BK403; clear HB; have HO401 := n0_; have HO409 := n1_; have BK403 := n2_; have HB := n3_; clear n0_ n1_ n2_ n3_; (try clear hb); (try clear hb2); (try clear hk); (try clear hi); obtain ⟨Ao21, co21, eo21⟩ := Kd.R_slice HO409.out; subst eo21; have p411 : 0 ≤ (0 : Int) := (by omega); have q411 : 0 < (t406.length : Int) := od; obtain ⟨ad411, e411, hx411_0⟩ := Kd.at_string (Kd.R_reads' HO409.out).2.2 0 p411 q411; cases e411; have qi411 : (0 < t406.length) = True := eq_true (by omega); (try rw [show ((0 : Int)).toNat = 0 from rfl] at hx411_0); (try rw [Addr.add_zero'] at hx411_0); replace p411 := eq_true p411; replace q411 := eq_true q411))
         go_ret
         exact ⟨ew, bwS⟩
        ·rw [if_neg c12] at H; exact absurd H (by simp)
       ·rw [if_neg c11] at H; have c11b0 : ((t406.length : Int) == 1) = false := beq_eq_false_iff_ne.mpr c11; have c11b1 : ((t406.length : Int) != 1) = true := bne_iff_ne.mpr c11; obtain rfl := Option.some.inj H
        go_enter Tryd.func26, Tryd.ntmps26
        go_wp2_with (first | ((with_reducible refine gate_callee (f := 27) rfl ?_); refine goesL_ (some 8) rfl rfl Tryd.func27 (by kernel_rfl) rfl #[.string (⟨#[84, 101, 120, 116, 47, 80, 108, 97, 105, 110, 59, 32, 67, 104, 97, 114, 115, 101, 116, 61, 34, 120, 32, 121, 34]⟩ : ByteArray)] rfl am ?_; (with_reducible refine (mime_ReadType.calls (hG := by first | exact hG | exact Glob.below hG (by first | exact HB.out | (repeat (first | (with_reducible first | exact HB.out | apply below_alloc | apply pw_below_drewN | apply below_drew1 | refine below_set ?_ GE403.out) | exact HB.out))) | exact Glob.drawn hG (d0)) k (⟨#[84, 101, 120, 116, 47, 80, 108, 97, 105, 110, 59, 32, 67, 104, 97, 114, 115, 101, 116, 61, 34, 120, 32, 121, 34]⟩ : ByteArray) t398 t399 t402 _ A1.out).mono ?_); rintro e w22 ⟨v400, rfl, ho0, hb⟩; refine ⟨_, rfl, ?_⟩; have n0_ := Aside0.mk (Kd.R_lower ho0 (below_size bw)); have n1_ := Aside0.mk (below_step bw hb); clear HB; have HO401 := n0_; have HB := n1_; clear n0_ n1_; (try clear hb); (try clear hb2); (try clear hk); (try clear hi); (try clear ho0)) | ((with_reducible refine gate_dst (N := 1) rfl ?_); (try (refine gate_guard (by rfl) ?_; dsimp only)); refine box_event ?hg (N := 1) ?hd (cs := #[.string (⟨#[]⟩ : ByteArray), .slice none 0 0]) (t := 51) ?hr ?_; (case hd => rfl); (case hg => rfl); (case hr => first | (go_simp; done) | (go_simp; rfl)); intro gb403 hg w23 hbox hb; have n0_ := Aside0.mk (Kd.R_below (ra HO401.out) hb); have n1_ := Aside0.mk (below_step bw hb); have n2_ := Aside0.mk (hbox); have n3_ := Aside0.mk ((by rw [hg]; exact (below_size bw) : w.heap.size ≤ gb403)); have n4_ := Aside0.mk ((by rw [hg]; exact (below_size bw) : w.heap.size ≤ gb403)); clear HO401; clear HB; have HO401 := n0_; have HB := n1_; have BK403 := n2_; have GW403 := n3_; have GE403 := n4_; clear n0_ n1_ n2_ n3_ n4_; clear hb hbox hg; have hcz24_0 : w23.cell? ⟨gb403, 0, none⟩ = some (.string (⟨#[]⟩ : ByteArray)) := (blk_cell BK403.out 0).trans rfl; have hcz24_1 : w23.cell? ⟨gb403, 1, none⟩ = some (.slice none 0 0) := (blk_cell BK403.out 1).trans rfl; have hfz24_0 := blk_frozen BK403.out 0; have hfz24_1 := blk_frozen BK403.out 1; obtain ⟨Ao25, co25, eo25⟩ := Kd.R_slice HO401.out; subst eo25) | ((with_reducible refine gate_callee (f := 31) rfl ?_); refine goesL_ (some 13) rfl rfl Tryd.func31 (by kernel_rfl) rfl #[.agg #[.string t398, .slice Ao25 t399.length co25], .string (⟨#[67, 72, 65, 82, 83, 69, 84]⟩ : ByteArray)] rfl am ?_; (with_reducible refine (mime_Type_Value.calls k t398 _ _ t399 (⟨#[67, 72, 65, 82, 83, 69, 84]⟩ : ByteArray) t404 true _ ?side1 ?side2 A2.out).mono ?_); (case side1 => refine (Kd.R_reads' (e := 104) (base := w.heap.size) (ok := fun k_ => True) (n := t399.length) (c := co25) ?_).2.2; exact (by (with_reducible repeat (first | apply Kd.R_alloc | apply Kd.R_drewN | apply Kd.R_drew)); exact (Kd.R_mono (Kd.R_far (p := ⟨gb403, 1, none⟩) (Kd.R_far (p := ⟨gb403, 0, none⟩) (Kd.R_types HO401.out BK403.out (by decide)) (fun _ hk => hk.2) (.string t398)) (fun _ hk => hk.2) (.slice Ao25 t399.length co25)) (fun _ h_ => h_.1)))); (case side2 => exact (Kd.R_reads' HO401.out).2.1); rintro e w26 ⟨rfl, hb⟩; refine ⟨_, rfl, ?_⟩; have n0_ := Aside0.mk (Kd.R_below (by (with_reducible repeat (first | apply Kd.R_alloc | apply Kd.R_drewN | apply Kd.R_drew)); exact (Kd.R_mono (Kd.R_far (p := ⟨gb403, 1, none⟩) (Kd.R_far (p := ⟨gb403, 0, none⟩) (Kd.R_types HO401.out BK403.out (by decide)) (fun _ hk => hk.2) (.string t398)) (fun _ hk => hk.2) (.slice Ao25 t399.length co25)) (fun _ h_ => h_.1))) hb); have n1_ := Aside0.mk (blk_below (g := gb403) (o := .cells #[.string t398, .slice Ao25 t399.length co25] 51 (0, 0)) (by (with_reducible repeat (first | refine blk_drewN ?_ _ | refine blk_drew ?_ | refine blk_alloc ?_ _)); refine blk_put (cs := #[.string t398, .slice none 0 0]) ?_ 1 _ rfl; (with_reducible repeat (first | refine blk_drewN ?_ _ | refine blk_drew ?_ | refine blk_alloc ?_ _)); exact blk_put (cs := #[.string (⟨#[]⟩ : ByteArray), .slice none 0 0]) bk 0 _ rfl) hb); have n2_ := Aside0.mk (below_step bwS hb); clear HO401; clear BK403; clear HB; have HO401 := n0_; have BK403 := n1_; have HB := n2_; clear n0_ n1_ n2_; (try clear hb); (try clear hb2); (try clear hk); (try clear hi)) | ((with_reducible refine gate_callee (f := 38) rfl ?_); refine goesL_ (some 17) rfl rfl Tryd.func38 (by kernel_rfl) rfl #[.string (⟨#[45, 45, 98, 13, 10, 120, 13, 10, 45, 45, 98, 45, 45, 13, 10]⟩ : ByteArray), .string (⟨#[98]⟩ : ByteArray)] rfl am ?_; (with_reducible refine (mime_Split.calls (hG := by first | exact hG | exact Glob.below hG (by first | exact HB.out | (repeat (first | (with_reducible first | exact HB.out | apply below_alloc | apply pw_below_drewN | apply below_drew1 | refine below_set ?_ GE403.out) | exact HB.out))) | exact Glob.drawn hG (d0)) (⟨#[45, 45, 98, 13, 10, 120, 13, 10, 45, 45, 98, 45, 45, 13, 10]⟩ : ByteArray) (⟨#[98]⟩ : ByteArray) t406 t407 _ A3.out).mono ?_); rintro e w27 ⟨v408, rfl, ho0, hb⟩; refine ⟨_, rfl, ?_⟩; have n0_ := Aside0.mk (Kd.R_below (ra HO401.out) hb); have n1_ := Aside0.mk (Kd.R_lower ho0 (below_size bwS)); have n2_ := Aside0.mk (blk_below (g := gb403) (o := .cells #[.string t398, .slice Ao25 t399.length co25] 51 (0, 0)) bk hb); have n3_ := Aside0.mk (below_step bwS hb); clear HO401; clear BK403; clear HB; have HO401 := n0_; have HO409 := n1_; have BK403 := n2_; have HB := n3_; clear n0_ n1_ n2_ n3_; (try clear hb); (try clear hb2); (try clear hk); (try clear hi); (try clear ho0); have hcz28_0 : w27.cell? ⟨gb403, 0, none⟩ = some (.string t398) := (blk_cell BK403.out 0).trans rfl; have hcz28_1 : w27.cell? ⟨gb403, 1, none⟩ = some (.slice Ao25 t399.length co25) := (blk_cell BK403.out 1).trans rfl; have hfz28_0 := blk_frozen BK403.out 0; have hfz28_1 := blk_frozen BK403.out 1) | (go_at_call 33; (with_reducible refine (mime_Type_Text.calls (hG := by first | exact hG | exact Glob.below hG (by first | exact HB.out | (repeat (first | (with_reducible first | exact HB.out | apply below_alloc | apply pw_below_drewN | apply below_drew1 | refine below_set ?_ GE403.out) | exact HB.out))) | exact Glob.drawn hG (d0)) k t398 _ _ t399 t410 _ ?side1 ?side2 A8.out).mono ?_); (case side1 => repeat (first | exact (Kd.R_reads' HO401.out).2.2 | (with_reducible refine Kd.C_alloc ?_ _) | (with_reducible refine Kd.C_drewN ?_ _) | (with_reducible refine Kd.C_drew ?_))); (case side2 => exact (Kd.R_reads' HO401.out).2.1); rintro e w29 ⟨rfl, hb⟩; have n0_ := Aside0.mk (Kd.R_below (ra HO401.out) hb); have n1_ := Aside0.mk (Kd.R_below (ra HO409.out) hb); have n2_ := Aside0.mk (blk_below (g := gb403) (o := .cells #[.string t398, .slice Ao25 t399.length co25] 51 (0, 0)) bk hb); have n3_ := Aside0.mk (below_step bwS hb); clear HO401; clear HO409; clear BK403; clear HB; have HO401 := n0_; have HO409 := n1_; have BK403 := n2_; have HB := n3_; clear n0_ n1_ n2_ n3_; (try clear hb); (try clear hb2); (try clear hk); (try clear hi); obtain ⟨Ao30, co30, eo30⟩ := Kd.R_slice HO409.out; subst eo30))
        go_ret
        exact ⟨ew, bwS⟩
      ·rw [if_neg c10] at H; have c10b0 : (t407 == 0) = false := beq_eq_false_iff_ne.mpr c10; have c10b1 : (t407 != 0) = true := bne_iff_ne.mpr c10; obtain rfl := Option.some.inj H
       go_enter Tryd.func26, Tryd.ntmps26
       go_wp2_with (first | ((with_reducible refine gate_callee (f := 27) rfl ?_); refine goesL_ (some 8) rfl rfl Tryd.func27 (by kernel_rfl) rfl #[.string (⟨#[84, 101, 120, 116, 47, 80, 108, 97, 105, 110, 59, 32, 67, 104, 97, 114, 115, 101, 116, 61, 34, 120, 32, 121, 34]⟩ : ByteArray)] rfl am ?_; (with_reducible refine (mime_ReadType.calls (hG := by first | exact hG | exact Glob.below hG (by first | exact HB.out | (repeat (first | (with_reducible first | exact HB.out | apply below_alloc | apply pw_below_drewN | apply below_drew1 | refine below_set ?_ GE403.out) | exact HB.out))) | exact Glob.drawn hG (d0)) k (⟨#[84, 101, 120, 116, 47, 80, 108, 97, 105, 110, 59, 32, 67, 104, 97, 114, 115, 101, 116, 61, 34, 120, 32, 121, 34]⟩ : ByteArray) t398 t399 t402 _ A1.out).mono ?_); rintro e w31 ⟨v400, rfl, ho0, hb⟩; refine ⟨_, rfl, ?_⟩; have n0_ := Aside0.mk (Kd.R_lower ho0 (below_size bw)); have n1_ := Aside0.mk (below_step bw hb); clear HB; have HO401 := n0_; have HB := n1_; clear n0_ n1_; (try clear hb); (try clear hb2); (try clear hk); (try clear hi); (try clear ho0)) | ((with_reducible refine gate_dst (N := 1) rfl ?_); (try (refine gate_guard (by rfl) ?_; dsimp only)); refine box_event ?hg (N := 1) ?hd (cs := #[.string (⟨#[]⟩ : ByteArray), .slice none 0 0]) (t := 51) ?hr ?_; (case hd => rfl); (case hg => rfl); (case hr => first | (go_simp; done) | (go_simp; rfl)); intro gb403 hg w32 hbox hb; have n0_ := Aside0.mk (Kd.R_below (ra HO401.out) hb); have n1_ := Aside0.mk (below_step bw hb); have n2_ := Aside0.mk (hbox); have n3_ := Aside0.mk ((by rw [hg]; exact (below_size bw) : w.heap.size ≤ gb403)); have n4_ := Aside0.mk ((by rw [hg]; exact (below_size bw) : w.heap.size ≤ gb403)); clear HO401; clear HB; have HO401 := n0_; have HB := n1_; have BK403 := n2_; have GW403 := n3_; have GE403 := n4_; clear n0_ n1_ n2_ n3_ n4_; clear hb hbox hg; have hcz33_0 : w32.cell? ⟨gb403, 0, none⟩ = some (.string (⟨#[]⟩ : ByteArray)) := (blk_cell BK403.out 0).trans rfl; have hcz33_1 : w32.cell? ⟨gb403, 1, none⟩ = some (.slice none 0 0) := (blk_cell BK403.out 1).trans rfl; have hfz33_0 := blk_frozen BK403.out 0; have hfz33_1 := blk_frozen BK403.out 1; obtain ⟨Ao34, co34, eo34⟩ := Kd.R_slice HO401.out; subst eo34) | ((with_reducible refine gate_callee (f := 31) rfl ?_); refine goesL_ (some 13) rfl rfl Tryd.func31 (by kernel_rfl) rfl #[.agg #[.string t398, .slice Ao34 t399.length co34], .string (⟨#[67, 72, 65, 82, 83, 69, 84]⟩ : ByteArray)] rfl am ?_; (with_reducible refine (mime_Type_Value.calls k t398 _ _ t399 (⟨#[67, 72, 65, 82, 83, 69, 84]⟩ : ByteArray) t404 true _ ?side1 ?side2 A2.out).mono ?_); (case side1 => refine (Kd.R_reads' (e := 104) (base := w.heap.size) (ok := fun k_ => True) (n := t399.length) (c := co34) ?_).2.2; exact (by (with_reducible repeat (first | apply Kd.R_alloc | apply Kd.R_drewN | apply Kd.R_drew)); exact (Kd.R_mono (Kd.R_far (p := ⟨gb403, 1, none⟩) (Kd.R_far (p := ⟨gb403, 0, none⟩) (Kd.R_types HO401.out BK403.out (by decide)) (fun _ hk => hk.2) (.string t398)) (fun _ hk => hk.2) (.slice Ao34 t399.length co34)) (fun _ h_ => h_.1)))); (case side2 => exact (Kd.R_reads' HO401.out).2.1); rintro e w35 ⟨rfl, hb⟩; refine ⟨_, rfl, ?_⟩; have n0_ := Aside0.mk (Kd.R_below (by (with_reducible repeat (first | apply Kd.R_alloc | apply Kd.R_drewN | apply Kd.R_drew)); exact (Kd.R_mono (Kd.R_far (p := ⟨gb403, 1, none⟩) (Kd.R_far (p := ⟨gb403, 0, none⟩) (Kd.R_types HO401.out BK403.out (by decide)) (fun _ hk => hk.2) (.string t398)) (fun _ hk => hk.2) (.slice Ao34 t399.length co34)) (fun _ h_ => h_.1))) hb); have n1_ := Aside0.mk (blk_below (g := gb403) (o := .cells #[.string t398, .slice Ao34 t399.length co34] 51 (0, 0)) (by (with_reducible repeat (first | refine blk_drewN ?_ _ | refine blk_drew ?_ | refine blk_alloc ?_ _)); refine blk_put (cs := #[.string t398, .slice none 0 0]) ?_ 1 _ rfl; (with_reducible repeat (first | refine blk_drewN ?_ _ | refine blk_drew ?_ | refine blk_alloc ?_ _)); exact blk_put (cs := #[.string (⟨#[]⟩ : ByteArray), .slice none 0 0]) bk 0 _ rfl) hb); have n2_ := Aside0.mk (below_step bwS hb); clear HO401; clear BK403; clear HB; have HO401 := n0_; have BK403 := n1_; have HB := n2_; clear n0_ n1_ n2_; (try clear hb); (try clear hb2); (try clear hk); (try clear hi)) | ((with_reducible refine gate_callee (f := 38) rfl ?_); refine goesL_ (some 17) rfl rfl Tryd.func38 (by kernel_rfl) rfl #[.string (⟨#[45, 45, 98, 13, 10, 120, 13, 10, 45, 45, 98, 45, 45, 13, 10]⟩ : ByteArray), .string (⟨#[98]⟩ : ByteArray)] rfl am ?_; (with_reducible refine (mime_Split.calls (hG := by first | exact hG | exact Glob.below hG (by first | exact HB.out | (repeat (first | (with_reducible first | exact HB.out | apply below_alloc | apply pw_below_drewN | apply below_drew1 | refine below_set ?_ GE403.out) | exact HB.out))) | exact Glob.drawn hG (d0)) (⟨#[45, 45, 98, 13, 10, 120, 13, 10, 45, 45, 98, 45, 45, 13, 10]⟩ : ByteArray) (⟨#[98]⟩ : ByteArray) t406 t407 _ A3.out).mono ?_); rintro e w36 ⟨v408, rfl, ho0, hb⟩; refine ⟨_, rfl, ?_⟩; have n0_ := Aside0.mk (Kd.R_below (ra HO401.out) hb); have n1_ := Aside0.mk (Kd.R_lower ho0 (below_size bwS)); have n2_ := Aside0.mk (blk_below (g := gb403) (o := .cells #[.string t398, .slice Ao34 t399.length co34] 51 (0, 0)) bk hb); have n3_ := Aside0.mk (below_step bwS hb); clear HO401; clear BK403; clear HB; have HO401 := n0_; have HO409 := n1_; have BK403 := n2_; have HB := n3_; clear n0_ n1_ n2_ n3_; (try clear hb); (try clear hb2); (try clear hk); (try clear hi); (try clear ho0); have hcz37_0 : w36.cell? ⟨gb403, 0, none⟩ = some (.string t398) := (blk_cell BK403.out 0).trans rfl; have hcz37_1 : w36.cell? ⟨gb403, 1, none⟩ = some (.slice Ao34 t399.length co34) := (blk_cell BK403.out 1).trans rfl; have hfz37_0 := blk_frozen BK403.out 0; have hfz37_1 := blk_frozen BK403.out 1) | (go_at_call 33; (with_reducible refine (mime_Type_Text.calls (hG := by first | exact hG | exact Glob.below hG (by first | exact HB.out | (repeat (first | (with_reducible first | exact HB.out | apply below_alloc | apply pw_below_drewN | apply below_drew1 | refine below_set ?_ GE403.out) | exact HB.out))) | exact Glob.drawn hG (d0)) k t398 _ _ t399 t410 _ ?side1 ?side2 A8.out).mono ?_); (case side1 => repeat (first | exact (Kd.R_reads' HO401.out).2.2 | (with_reducible refine Kd.C_alloc ?_ _) | (with_reducible refine Kd.C_drewN ?_ _) | (with_reducible refine Kd.C_drew ?_))); (case side2 => exact (Kd.R_reads' HO401.out).2.1); rintro e w38 ⟨rfl, hb⟩; have n0_ := Aside0.mk (Kd.R_below (ra HO401.out) hb); have n1_ := Aside0.mk (Kd.R_below (ra HO409.out) hb); have n2_ := Aside0.mk (blk_below (g := gb403) (o := .cells #[.string t398, .slice Ao34 t399.length co34] 51 (0, 0)) bk hb); have n3_ := Aside0.mk (below_step bwS hb); clear HO401; clear HO409; clear BK403; clear HB; have HO401 := n0_; have HO409 := n1_; have BK403 := n2_; have HB := n3_; clear n0_ n1_ n2_ n3_; (try clear hb); (try clear hb2); (try clear hk); (try clear hi)))
       go_ret
       exact ⟨ew, bwS⟩
     ·rw [if_neg c9] at H; have c9b0 : (t410.toList == ([116, 101, 120, 116, 47, 112, 108, 97, 105, 110, 59, 32, 99, 104, 97, 114, 115, 101, 116, 61, 34, 120, 32, 121, 34] : List UInt8)) = false := beq_eq_false_iff_ne.mpr c9; have c9b1 : (t410.toList != ([116, 101, 120, 116, 47, 112, 108, 97, 105, 110, 59, 32, 99, 104, 97, 114, 115, 101, 116, 61, 34, 120, 32, 121, 34] : List UInt8)) = true := bne_iff_ne.mpr c9; obtain rfl := Option.some.inj H
      go_enter Tryd.func26, Tryd.ntmps26
      go_wp2_with (first | ((with_reducible refine gate_callee (f := 27) rfl ?_); refine goesL_ (some 8) rfl rfl Tryd.func27 (by kernel_rfl) rfl #[.string (⟨#[84, 101, 120, 116, 47, 80, 108, 97, 105, 110, 59, 32, 67, 104, 97, 114, 115, 101, 116, 61, 34, 120, 32, 121, 34]⟩ : ByteArray)] rfl am ?_; (with_reducible refine (mime_ReadType.calls (hG := by first | exact hG | exact Glob.below hG (by first | exact HB.out | (repeat (first | (with_reducible first | exact HB.out | apply below_alloc | apply pw_below_drewN | apply below_drew1 | refine below_set ?_ GE403.out) | exact HB.out))) | exact Glob.drawn hG (d0)) k (⟨#[84, 101, 120, 116, 47, 80, 108, 97, 105, 110, 59, 32, 67, 104, 97, 114, 115, 101, 116, 61, 34, 120, 32, 121, 34]⟩ : ByteArray) t398 t399 t402 _ A1.out).mono ?_); rintro e w39 ⟨v400, rfl, ho0, hb⟩; refine ⟨_, rfl, ?_⟩; have n0_ := Aside0.mk (Kd.R_lower ho0 (below_size bw)); have n1_ := Aside0.mk (below_step bw hb); clear HB; have HO401 := n0_; have HB := n1_; clear n0_ n1_; (try clear hb); (try clear hb2); (try clear hk); (try clear hi); (try clear ho0)) | ((with_reducible refine gate_dst (N := 1) rfl ?_); (try (refine gate_guard (by rfl) ?_; dsimp only)); refine box_event ?hg (N := 1) ?hd (cs := #[.string (⟨#[]⟩ : ByteArray), .slice none 0 0]) (t := 51) ?hr ?_; (case hd => rfl); (case hg => rfl); (case hr => first | (go_simp; done) | (go_simp; rfl)); intro gb403 hg w40 hbox hb; have n0_ := Aside0.mk (Kd.R_below (ra HO401.out) hb); have n1_ := Aside0.mk (below_step bw hb); have n2_ := Aside0.mk (hbox); have n3_ := Aside0.mk ((by rw [hg]; exact (below_size bw) : w.heap.size ≤ gb403)); have n4_ := Aside0.mk ((by rw [hg]; exact (below_size bw) : w.heap.size ≤ gb403)); clear HO401; clear HB; have HO401 := n0_; have HB := n1_; have BK403 := n2_; have GW403 := n3_; have GE403 := n4_; clear n0_ n1_ n2_ n3_ n4_; clear hb hbox hg; have hcz41_0 : w40.cell? ⟨gb403, 0, none⟩ = some (.string (⟨#[]⟩ : ByteArray)) := (blk_cell BK403.out 0).trans rfl; have hcz41_1 : w40.cell? ⟨gb403, 1, none⟩ = some (.slice none 0 0) := (blk_cell BK403.out 1).trans rfl; have hfz41_0 := blk_frozen BK403.out 0; have hfz41_1 := blk_frozen BK403.out 1; obtain ⟨Ao42, co42, eo42⟩ := Kd.R_slice HO401.out; subst eo42) | ((with_reducible refine gate_callee (f := 31) rfl ?_); refine goesL_ (some 13) rfl rfl Tryd.func31 (by kernel_rfl) rfl #[.agg #[.string t398, .slice Ao42 t399.length co42], .string (⟨#[67, 72, 65, 82, 83, 69, 84]⟩ : ByteArray)] rfl am ?_; (with_reducible refine (mime_Type_Value.calls k t398 _ _ t399 (⟨#[67, 72, 65, 82, 83, 69, 84]⟩ : ByteArray) t404 true _ ?side1 ?side2 A2.out).mono ?_); (case side1 => refine (Kd.R_reads' (e := 104) (base := w.heap.size) (ok := fun k_ => True) (n := t399.length) (c := co42) ?_).2.2; exact (by (with_reducible repeat (first | apply Kd.R_alloc | apply Kd.R_drewN | apply Kd.R_drew)); exact (Kd.R_mono (Kd.R_far (p := ⟨gb403, 1, none⟩) (Kd.R_far (p := ⟨gb403, 0, none⟩) (Kd.R_types HO401.out BK403.out (by decide)) (fun _ hk => hk.2) (.string t398)) (fun _ hk => hk.2) (.slice Ao42 t399.length co42)) (fun _ h_ => h_.1)))); (case side2 => exact (Kd.R_reads' HO401.out).2.1); rintro e w43 ⟨rfl, hb⟩; refine ⟨_, rfl, ?_⟩; have n0_ := Aside0.mk (Kd.R_below (by (with_reducible repeat (first | apply Kd.R_alloc | apply Kd.R_drewN | apply Kd.R_drew)); exact (Kd.R_mono (Kd.R_far (p := ⟨gb403, 1, none⟩) (Kd.R_far (p := ⟨gb403, 0, none⟩) (Kd.R_types HO401.out BK403.out (by decide)) (fun _ hk => hk.2) (.string t398)) (fun _ hk => hk.2) (.slice Ao42 t399.length co42)) (fun _ h_ => h_.1))) hb); have n1_ := Aside0.mk (blk_below (g := gb403) (o := .cells #[.string t398, .slice Ao42 t399.length co42] 51 (0, 0)) (by (with_reducible repeat (first | refine blk_drewN ?_ _ | refine blk_drew ?_ | refine blk_alloc ?_ _)); refine blk_put (cs := #[.string t398, .slice none 0 0]) ?_ 1 _ rfl; (with_reducible repeat (first | refine blk_drewN ?_ _ | refine blk_drew ?_ | refine blk_alloc ?_ _)); exact blk_put (cs := #[.string (⟨#[]⟩ : ByteArray), .slice none 0 0]) bk 0 _ rfl) hb); have n2_ := Aside0.mk (below_step bwS hb); clear HO401; clear BK403; clear HB; have HO401 := n0_; have BK403 := n1_; have HB := n2_; clear n0_ n1_ n2_; (try clear hb); (try clear hb2); (try clear hk); (try clear hi)) | ((with_reducible refine gate_callee (f := 38) rfl ?_); refine goesL_ (some 17) rfl rfl Tryd.func38 (by kernel_rfl) rfl #[.string (⟨#[45, 45, 98, 13, 10, 120, 13, 10, 45, 45, 98, 45, 45, 13, 10]⟩ : ByteArray), .string (⟨#[98]⟩ : ByteArray)] rfl am ?_; (with_reducible refine (mime_Split.calls (hG := by first | exact hG | exact Glob.below hG (by first | exact HB.out | (repeat (first | (with_reducible first | exact HB.out | apply below_alloc | apply pw_below_drewN | apply below_drew1 | refine below_set ?_ GE403.out) | exact HB.out))) | exact Glob.drawn hG (d0)) (⟨#[45, 45, 98, 13, 10, 120, 13, 10, 45, 45, 98, 45, 45, 13, 10]⟩ : ByteArray) (⟨#[98]⟩ : ByteArray) t406 t407 _ A3.out).mono ?_); rintro e w44 ⟨v408, rfl, ho0, hb⟩; refine ⟨_, rfl, ?_⟩; have n0_ := Aside0.mk (Kd.R_below (ra HO401.out) hb); have n1_ := Aside0.mk (Kd.R_lower ho0 (below_size bwS)); have n2_ := Aside0.mk (blk_below (g := gb403) (o := .cells #[.string t398, .slice Ao42 t399.length co42] 51 (0, 0)) bk hb); have n3_ := Aside0.mk (below_step bwS hb); clear HO401; clear BK403; clear HB; have HO401 := n0_; have HO409 := n1_; have BK403 := n2_; have HB := n3_; clear n0_ n1_ n2_ n3_; (try clear hb); (try clear hb2); (try clear hk); (try clear hi); (try clear ho0); have hcz45_0 : w44.cell? ⟨gb403, 0, none⟩ = some (.string t398) := (blk_cell BK403.out 0).trans rfl; have hcz45_1 : w44.cell? ⟨gb403, 1, none⟩ = some (.slice Ao42 t399.length co42) := (blk_cell BK403.out 1).trans rfl; have hfz45_0 := blk_frozen BK403.out 0; have hfz45_1 := blk_frozen BK403.out 1) | (go_at_call 33; (with_reducible refine (mime_Type_Text.calls (hG := by first | exact hG | exact Glob.below hG (by first | exact HB.out | (repeat (first | (with_reducible first | exact HB.out | apply below_alloc | apply pw_below_drewN | apply below_drew1 | refine below_set ?_ GE403.out) | exact HB.out))) | exact Glob.drawn hG (d0)) k t398 _ _ t399 t410 _ ?side1 ?side2 A8.out).mono ?_); (case side1 => repeat (first | exact (Kd.R_reads' HO401.out).2.2 | (with_reducible refine Kd.C_alloc ?_ _) | (with_reducible refine Kd.C_drewN ?_ _) | (with_reducible refine Kd.C_drew ?_))); (case side2 => exact (Kd.R_reads' HO401.out).2.1); rintro e w46 ⟨rfl, hb⟩; have n0_ := Aside0.mk (Kd.R_below (ra HO401.out) hb); have n1_ := Aside0.mk (Kd.R_below (ra HO409.out) hb); have n2_ := Aside0.mk (blk_below (g := gb403) (o := .cells #[.string t398, .slice Ao42 t399.length co42] 51 (0, 0)) bk hb); have n3_ := Aside0.mk (below_step bwS hb); clear HO401; clear HO409; clear BK403; clear HB; have HO401 := n0_; have HO409 := n1_; have BK403 := n2_; have HB := n3_; clear n0_ n1_ n2_ n3_; (try clear hb); (try clear hb2); (try clear hk); (try clear hi)))
      go_ret
      exact ⟨ew, bwS⟩
    ·replace c7 := Bool.eq_false_iff.mpr c7; subst c7; have H1 : (some false) = some r := by rw [if_neg (show ¬ (false = true) by decide)] at H; exact H
     clear H; have H := H1; clear H1; obtain rfl := Option.some.inj H
     go_enter Tryd.func26, Tryd.ntmps26
     go_wp2_with (first | ((with_reducible refine gate_callee (f := 27) rfl ?_); refine goesL_ (some 8) rfl rfl Tryd.func27 (by kernel_rfl) rfl #[.string (⟨#[84, 101, 120, 116, 47, 80, 108, 97, 105, 110, 59, 32, 67, 104, 97, 114, 115, 101, 116, 61, 34, 120, 32, 121, 34]⟩ : ByteArray)] rfl am ?_; (with_reducible refine (mime_ReadType.calls (hG := by first | exact hG | exact Glob.below hG (by first | exact HB.out | (repeat (first | (with_reducible first | exact HB.out | apply below_alloc | apply pw_below_drewN | apply below_drew1 | refine below_set ?_ GE403.out) | exact HB.out))) | exact Glob.drawn hG (d0)) k (⟨#[84, 101, 120, 116, 47, 80, 108, 97, 105, 110, 59, 32, 67, 104, 97, 114, 115, 101, 116, 61, 34, 120, 32, 121, 34]⟩ : ByteArray) t398 t399 t402 _ A1.out).mono ?_); rintro e w47 ⟨v400, rfl, ho0, hb⟩; refine ⟨_, rfl, ?_⟩; have n0_ := Aside0.mk (Kd.R_lower ho0 (below_size bw)); have n1_ := Aside0.mk (below_step bw hb); clear HB; have HO401 := n0_; have HB := n1_; clear n0_ n1_; (try clear hb); (try clear hb2); (try clear hk); (try clear hi); (try clear ho0)) | ((with_reducible refine gate_dst (N := 1) rfl ?_); (try (refine gate_guard (by rfl) ?_; dsimp only)); refine box_event ?hg (N := 1) ?hd (cs := #[.string (⟨#[]⟩ : ByteArray), .slice none 0 0]) (t := 51) ?hr ?_; (case hd => rfl); (case hg => rfl); (case hr => first | (go_simp; done) | (go_simp; rfl)); intro gb403 hg w48 hbox hb; have n0_ := Aside0.mk (Kd.R_below (ra HO401.out) hb); have n1_ := Aside0.mk (below_step bw hb); have n2_ := Aside0.mk (hbox); have n3_ := Aside0.mk ((by rw [hg]; exact (below_size bw) : w.heap.size ≤ gb403)); have n4_ := Aside0.mk ((by rw [hg]; exact (below_size bw) : w.heap.size ≤ gb403)); clear HO401; clear HB; have HO401 := n0_; have HB := n1_; have BK403 := n2_; have GW403 := n3_; have GE403 := n4_; clear n0_ n1_ n2_ n3_ n4_; clear hb hbox hg; have hcz49_0 : w48.cell? ⟨gb403, 0, none⟩ = some (.string (⟨#[]⟩ : ByteArray)) := (blk_cell BK403.out 0).trans rfl; have hcz49_1 : w48.cell? ⟨gb403, 1, none⟩ = some (.slice none 0 0) := (blk_cell BK403.out 1).trans rfl; have hfz49_0 := blk_frozen BK403.out 0; have hfz49_1 := blk_frozen BK403.out 1; obtain ⟨Ao50, co50, eo50⟩ := Kd.R_slice HO401.out; subst eo50) | ((with_reducible refine gate_callee (f := 31) rfl ?_); refine goesL_ (some 13) rfl rfl Tryd.func31 (by kernel_rfl) rfl #[.agg #[.string t398, .slice Ao50 t399.length co50], .string (⟨#[67, 72, 65, 82, 83, 69, 84]⟩ : ByteArray)] rfl am ?_; (with_reducible refine (mime_Type_Value.calls k t398 _ _ t399 (⟨#[67, 72, 65, 82, 83, 69, 84]⟩ : ByteArray) t404 false _ ?side1 ?side2 A2.out).mono ?_); (case side1 => refine (Kd.R_reads' (e := 104) (base := w.heap.size) (ok := fun k_ => True) (n := t399.length) (c := co50) ?_).2.2; exact (by (with_reducible repeat (first | apply Kd.R_alloc | apply Kd.R_drewN | apply Kd.R_drew)); exact (Kd.R_mono (Kd.R_far (p := ⟨gb403, 1, none⟩) (Kd.R_far (p := ⟨gb403, 0, none⟩) (Kd.R_types HO401.out BK403.out (by decide)) (fun _ hk => hk.2) (.string t398)) (fun _ hk => hk.2) (.slice Ao50 t399.length co50)) (fun _ h_ => h_.1)))); (case side2 => exact (Kd.R_reads' HO401.out).2.1); rintro e w51 ⟨rfl, hb⟩; refine ⟨_, rfl, ?_⟩; have n0_ := Aside0.mk (Kd.R_below (by (with_reducible repeat (first | apply Kd.R_alloc | apply Kd.R_drewN | apply Kd.R_drew)); exact (Kd.R_mono (Kd.R_far (p := ⟨gb403, 1, none⟩) (Kd.R_far (p := ⟨gb403, 0, none⟩) (Kd.R_types HO401.out BK403.out (by decide)) (fun _ hk => hk.2) (.string t398)) (fun _ hk => hk.2) (.slice Ao50 t399.length co50)) (fun _ h_ => h_.1))) hb); have n1_ := Aside0.mk (blk_below (g := gb403) (o := .cells #[.string t398, .slice Ao50 t399.length co50] 51 (0, 0)) (by (with_reducible repeat (first | refine blk_drewN ?_ _ | refine blk_drew ?_ | refine blk_alloc ?_ _)); refine blk_put (cs := #[.string t398, .slice none 0 0]) ?_ 1 _ rfl; (with_reducible repeat (first | refine blk_drewN ?_ _ | refine blk_drew ?_ | refine blk_alloc ?_ _)); exact blk_put (cs := #[.string (⟨#[]⟩ : ByteArray), .slice none 0 0]) bk 0 _ rfl) hb); have n2_ := Aside0.mk (below_step bwS hb); clear HO401; clear BK403; clear HB; have HO401 := n0_; have BK403 := n1_; have HB := n2_; clear n0_ n1_ n2_; (try clear hb); (try clear hb2); (try clear hk); (try clear hi)) | ((with_reducible refine gate_callee (f := 38) rfl ?_); refine goesL_ (some 17) rfl rfl Tryd.func38 (by kernel_rfl) rfl #[.string (⟨#[45, 45, 98, 13, 10, 120, 13, 10, 45, 45, 98, 45, 45, 13, 10]⟩ : ByteArray), .string (⟨#[98]⟩ : ByteArray)] rfl am ?_; (with_reducible refine (mime_Split.calls (hG := by first | exact hG | exact Glob.below hG (by first | exact HB.out | (repeat (first | (with_reducible first | exact HB.out | apply below_alloc | apply pw_below_drewN | apply below_drew1 | refine below_set ?_ GE403.out) | exact HB.out))) | exact Glob.drawn hG (d0)) (⟨#[45, 45, 98, 13, 10, 120, 13, 10, 45, 45, 98, 45, 45, 13, 10]⟩ : ByteArray) (⟨#[98]⟩ : ByteArray) t406 t407 _ A3.out).mono ?_); rintro e w52 ⟨v408, rfl, ho0, hb⟩; refine ⟨_, rfl, ?_⟩; have n0_ := Aside0.mk (Kd.R_below (ra HO401.out) hb); have n1_ := Aside0.mk (Kd.R_lower ho0 (below_size bwS)); have n2_ := Aside0.mk (blk_below (g := gb403) (o := .cells #[.string t398, .slice Ao50 t399.length co50] 51 (0, 0)) bk hb); have n3_ := Aside0.mk (below_step bwS hb); clear HO401; clear BK403; clear HB; have HO401 := n0_; have HO409 := n1_; have BK403 := n2_; have HB := n3_; clear n0_ n1_ n2_ n3_; (try clear hb); (try clear hb2); (try clear hk); (try clear hi); (try clear ho0); have hcz53_0 : w52.cell? ⟨gb403, 0, none⟩ = some (.string t398) := (blk_cell BK403.out 0).trans rfl; have hcz53_1 : w52.cell? ⟨gb403, 1, none⟩ = some (.slice Ao50 t399.length co50) := (blk_cell BK403.out 1).trans rfl; have hfz53_0 := blk_frozen BK403.out 0; have hfz53_1 := blk_frozen BK403.out 1))
     go_ret
     exact ⟨ew, bwS⟩
   ·rw [if_neg c6] at H; have c6b0 : (t404.toList == ([120, 32, 121] : List UInt8)) = false := beq_eq_false_iff_ne.mpr c6; have c6b1 : (t404.toList != ([120, 32, 121] : List UInt8)) = true := bne_iff_ne.mpr c6; obtain rfl := Option.some.inj H
    go_enter Tryd.func26, Tryd.ntmps26
    go_wp2_with (first | ((with_reducible refine gate_callee (f := 27) rfl ?_); refine goesL_ (some 8) rfl rfl Tryd.func27 (by kernel_rfl) rfl #[.string (⟨#[84, 101, 120, 116, 47, 80, 108, 97, 105, 110, 59, 32, 67, 104, 97, 114, 115, 101, 116, 61, 34, 120, 32, 121, 34]⟩ : ByteArray)] rfl am ?_; (with_reducible refine (mime_ReadType.calls (hG := by first | exact hG | exact Glob.below hG (by first | exact HB.out | (repeat (first | (with_reducible first | exact HB.out | apply below_alloc | apply pw_below_drewN | apply below_drew1 | refine below_set ?_ GE403.out) | exact HB.out))) | exact Glob.drawn hG (d0)) k (⟨#[84, 101, 120, 116, 47, 80, 108, 97, 105, 110, 59, 32, 67, 104, 97, 114, 115, 101, 116, 61, 34, 120, 32, 121, 34]⟩ : ByteArray) t398 t399 t402 _ A1.out).mono ?_); rintro e w54 ⟨v400, rfl, ho0, hb⟩; refine ⟨_, rfl, ?_⟩; have n0_ := Aside0.mk (Kd.R_lower ho0 (below_size bw)); have n1_ := Aside0.mk (below_step bw hb); clear HB; have HO401 := n0_; have HB := n1_; clear n0_ n1_; (try clear hb); (try clear hb2); (try clear hk); (try clear hi); (try clear ho0)) | ((with_reducible refine gate_dst (N := 1) rfl ?_); (try (refine gate_guard (by rfl) ?_; dsimp only)); refine box_event ?hg (N := 1) ?hd (cs := #[.string (⟨#[]⟩ : ByteArray), .slice none 0 0]) (t := 51) ?hr ?_; (case hd => rfl); (case hg => rfl); (case hr => first | (go_simp; done) | (go_simp; rfl)); intro gb403 hg w55 hbox hb; have n0_ := Aside0.mk (Kd.R_below (ra HO401.out) hb); have n1_ := Aside0.mk (below_step bw hb); have n2_ := Aside0.mk (hbox); have n3_ := Aside0.mk ((by rw [hg]; exact (below_size bw) : w.heap.size ≤ gb403)); have n4_ := Aside0.mk ((by rw [hg]; exact (below_size bw) : w.heap.size ≤ gb403)); clear HO401; clear HB; have HO401 := n0_; have HB := n1_; have BK403 := n2_; have GW403 := n3_; have GE403 := n4_; clear n0_ n1_ n2_ n3_ n4_; clear hb hbox hg; have hcz56_0 : w55.cell? ⟨gb403, 0, none⟩ = some (.string (⟨#[]⟩ : ByteArray)) := (blk_cell BK403.out 0).trans rfl; have hcz56_1 : w55.cell? ⟨gb403, 1, none⟩ = some (.slice none 0 0) := (blk_cell BK403.out 1).trans rfl; have hfz56_0 := blk_frozen BK403.out 0; have hfz56_1 := blk_frozen BK403.out 1; obtain ⟨Ao57, co57, eo57⟩ := Kd.R_slice HO401.out; subst eo57) | ((with_reducible refine gate_callee (f := 31) rfl ?_); refine goesL_ (some 13) rfl rfl Tryd.func31 (by kernel_rfl) rfl #[.agg #[.string t398, .slice Ao57 t399.length co57], .string (⟨#[67, 72, 65, 82, 83, 69, 84]⟩ : ByteArray)] rfl am ?_; (with_reducible refine (mime_Type_Value.calls k t398 _ _ t399 (⟨#[67, 72, 65, 82, 83, 69, 84]⟩ : ByteArray) t404 t405 _ ?side1 ?side2 A2.out).mono ?_); (case side1 => refine (Kd.R_reads' (e := 104) (base := w.heap.size) (ok := fun k_ => True) (n := t399.length) (c := co57) ?_).2.2; exact (by (with_reducible repeat (first | apply Kd.R_alloc | apply Kd.R_drewN | apply Kd.R_drew)); exact (Kd.R_mono (Kd.R_far (p := ⟨gb403, 1, none⟩) (Kd.R_far (p := ⟨gb403, 0, none⟩) (Kd.R_types HO401.out BK403.out (by decide)) (fun _ hk => hk.2) (.string t398)) (fun _ hk => hk.2) (.slice Ao57 t399.length co57)) (fun _ h_ => h_.1)))); (case side2 => exact (Kd.R_reads' HO401.out).2.1); rintro e w58 ⟨rfl, hb⟩; refine ⟨_, rfl, ?_⟩; have n0_ := Aside0.mk (Kd.R_below (by (with_reducible repeat (first | apply Kd.R_alloc | apply Kd.R_drewN | apply Kd.R_drew)); exact (Kd.R_mono (Kd.R_far (p := ⟨gb403, 1, none⟩) (Kd.R_far (p := ⟨gb403, 0, none⟩) (Kd.R_types HO401.out BK403.out (by decide)) (fun _ hk => hk.2) (.string t398)) (fun _ hk => hk.2) (.slice Ao57 t399.length co57)) (fun _ h_ => h_.1))) hb); have n1_ := Aside0.mk (blk_below (g := gb403) (o := .cells #[.string t398, .slice Ao57 t399.length co57] 51 (0, 0)) (by (with_reducible repeat (first | refine blk_drewN ?_ _ | refine blk_drew ?_ | refine blk_alloc ?_ _)); refine blk_put (cs := #[.string t398, .slice none 0 0]) ?_ 1 _ rfl; (with_reducible repeat (first | refine blk_drewN ?_ _ | refine blk_drew ?_ | refine blk_alloc ?_ _)); exact blk_put (cs := #[.string (⟨#[]⟩ : ByteArray), .slice none 0 0]) bk 0 _ rfl) hb); have n2_ := Aside0.mk (below_step bwS hb); clear HO401; clear BK403; clear HB; have HO401 := n0_; have BK403 := n1_; have HB := n2_; clear n0_ n1_ n2_; (try clear hb); (try clear hb2); (try clear hk); (try clear hi)) | ((with_reducible refine gate_callee (f := 38) rfl ?_); refine goesL_ (some 17) rfl rfl Tryd.func38 (by kernel_rfl) rfl #[.string (⟨#[45, 45, 98, 13, 10, 120, 13, 10, 45, 45, 98, 45, 45, 13, 10]⟩ : ByteArray), .string (⟨#[98]⟩ : ByteArray)] rfl am ?_; (with_reducible refine (mime_Split.calls (hG := by first | exact hG | exact Glob.below hG (by first | exact HB.out | (repeat (first | (with_reducible first | exact HB.out | apply below_alloc | apply pw_below_drewN | apply below_drew1 | refine below_set ?_ GE403.out) | exact HB.out))) | exact Glob.drawn hG (d0)) (⟨#[45, 45, 98, 13, 10, 120, 13, 10, 45, 45, 98, 45, 45, 13, 10]⟩ : ByteArray) (⟨#[98]⟩ : ByteArray) t406 t407 _ A3.out).mono ?_); rintro e w59 ⟨v408, rfl, ho0, hb⟩; refine ⟨_, rfl, ?_⟩; have n0_ := Aside0.mk (Kd.R_below (ra HO401.out) hb); have n1_ := Aside0.mk (Kd.R_lower ho0 (below_size bwS)); have n2_ := Aside0.mk (blk_below (g := gb403) (o := .cells #[.string t398, .slice Ao57 t399.length co57] 51 (0, 0)) bk hb); have n3_ := Aside0.mk (below_step bwS hb); clear HO401; clear BK403; clear HB; have HO401 := n0_; have HO409 := n1_; have BK403 := n2_; have HB := n3_; clear n0_ n1_ n2_ n3_; (try clear hb); (try clear hb2); (try clear hk); (try clear hi); (try clear ho0); have hcz60_0 : w59.cell? ⟨gb403, 0, none⟩ = some (.string t398) := (blk_cell BK403.out 0).trans rfl; have hcz60_1 : w59.cell? ⟨gb403, 1, none⟩ = some (.slice Ao57 t399.length co57) := (blk_cell BK403.out 1).trans rfl; have hfz60_0 := blk_frozen BK403.out 0; have hfz60_1 := blk_frozen BK403.out 1))
    go_ret
    exact ⟨ew, bwS⟩
  ·rw [if_neg c5] at H; have c5b0 : (t398.toList == ([116, 101, 120, 116, 47, 112, 108, 97, 105, 110] : List UInt8)) = false := beq_eq_false_iff_ne.mpr c5; have c5b1 : (t398.toList != ([116, 101, 120, 116, 47, 112, 108, 97, 105, 110] : List UInt8)) = true := bne_iff_ne.mpr c5; obtain rfl := Option.some.inj H
   go_enter Tryd.func26, Tryd.ntmps26
   go_wp2_with (first | ((with_reducible refine gate_callee (f := 27) rfl ?_); refine goesL_ (some 8) rfl rfl Tryd.func27 (by kernel_rfl) rfl #[.string (⟨#[84, 101, 120, 116, 47, 80, 108, 97, 105, 110, 59, 32, 67, 104, 97, 114, 115, 101, 116, 61, 34, 120, 32, 121, 34]⟩ : ByteArray)] rfl am ?_; (with_reducible refine (mime_ReadType.calls (hG := by first | exact hG | exact Glob.below hG (by first | exact HB.out | (repeat (first | (with_reducible first | exact HB.out | apply below_alloc | apply pw_below_drewN | apply below_drew1 | refine below_set ?_ GE403.out) | exact HB.out))) | exact Glob.drawn hG (d0)) k (⟨#[84, 101, 120, 116, 47, 80, 108, 97, 105, 110, 59, 32, 67, 104, 97, 114, 115, 101, 116, 61, 34, 120, 32, 121, 34]⟩ : ByteArray) t398 t399 t402 _ A1.out).mono ?_); rintro e w61 ⟨v400, rfl, ho0, hb⟩; refine ⟨_, rfl, ?_⟩; have n0_ := Aside0.mk (Kd.R_lower ho0 (below_size bw)); have n1_ := Aside0.mk (below_step bw hb); clear HB; have HO401 := n0_; have HB := n1_; clear n0_ n1_; (try clear hb); (try clear hb2); (try clear hk); (try clear hi); (try clear ho0)) | ((with_reducible refine gate_dst (N := 1) rfl ?_); (try (refine gate_guard (by rfl) ?_; dsimp only)); refine box_event ?hg (N := 1) ?hd (cs := #[.string (⟨#[]⟩ : ByteArray), .slice none 0 0]) (t := 51) ?hr ?_; (case hd => rfl); (case hg => rfl); (case hr => first | (go_simp; done) | (go_simp; rfl)); intro gb403 hg w62 hbox hb; have n0_ := Aside0.mk (Kd.R_below (ra HO401.out) hb); have n1_ := Aside0.mk (below_step bw hb); have n2_ := Aside0.mk (hbox); have n3_ := Aside0.mk ((by rw [hg]; exact (below_size bw) : w.heap.size ≤ gb403)); have n4_ := Aside0.mk ((by rw [hg]; exact (below_size bw) : w.heap.size ≤ gb403)); clear HO401; clear HB; have HO401 := n0_; have HB := n1_; have BK403 := n2_; have GW403 := n3_; have GE403 := n4_; clear n0_ n1_ n2_ n3_ n4_; clear hb hbox hg; have hcz63_0 : w62.cell? ⟨gb403, 0, none⟩ = some (.string (⟨#[]⟩ : ByteArray)) := (blk_cell BK403.out 0).trans rfl; have hcz63_1 : w62.cell? ⟨gb403, 1, none⟩ = some (.slice none 0 0) := (blk_cell BK403.out 1).trans rfl; have hfz63_0 := blk_frozen BK403.out 0; have hfz63_1 := blk_frozen BK403.out 1; obtain ⟨Ao64, co64, eo64⟩ := Kd.R_slice HO401.out; subst eo64) | ((with_reducible refine gate_callee (f := 31) rfl ?_); refine goesL_ (some 13) rfl rfl Tryd.func31 (by kernel_rfl) rfl #[.agg #[.string t398, .slice Ao64 t399.length co64], .string (⟨#[67, 72, 65, 82, 83, 69, 84]⟩ : ByteArray)] rfl am ?_; (with_reducible refine (mime_Type_Value.calls k t398 _ _ t399 (⟨#[67, 72, 65, 82, 83, 69, 84]⟩ : ByteArray) t404 t405 _ ?side1 ?side2 A2.out).mono ?_); (case side1 => refine (Kd.R_reads' (e := 104) (base := w.heap.size) (ok := fun k_ => True) (n := t399.length) (c := co64) ?_).2.2; exact (by (with_reducible repeat (first | apply Kd.R_alloc | apply Kd.R_drewN | apply Kd.R_drew)); exact (Kd.R_mono (Kd.R_far (p := ⟨gb403, 1, none⟩) (Kd.R_far (p := ⟨gb403, 0, none⟩) (Kd.R_types HO401.out BK403.out (by decide)) (fun _ hk => hk.2) (.string t398)) (fun _ hk => hk.2) (.slice Ao64 t399.length co64)) (fun _ h_ => h_.1)))); (case side2 => exact (Kd.R_reads' HO401.out).2.1); rintro e w65 ⟨rfl, hb⟩; refine ⟨_, rfl, ?_⟩; have n0_ := Aside0.mk (Kd.R_below (by (with_reducible repeat (first | apply Kd.R_alloc | apply Kd.R_drewN | apply Kd.R_drew)); exact (Kd.R_mono (Kd.R_far (p := ⟨gb403, 1, none⟩) (Kd.R_far (p := ⟨gb403, 0, none⟩) (Kd.R_types HO401.out BK403.out (by decide)) (fun _ hk => hk.2) (.string t398)) (fun _ hk => hk.2) (.slice Ao64 t399.length co64)) (fun _ h_ => h_.1))) hb); have n1_ := Aside0.mk (blk_below (g := gb403) (o := .cells #[.string t398, .slice Ao64 t399.length co64] 51 (0, 0)) (by (with_reducible repeat (first | refine blk_drewN ?_ _ | refine blk_drew ?_ | refine blk_alloc ?_ _)); refine blk_put (cs := #[.string t398, .slice none 0 0]) ?_ 1 _ rfl; (with_reducible repeat (first | refine blk_drewN ?_ _ | refine blk_drew ?_ | refine blk_alloc ?_ _)); exact blk_put (cs := #[.string (⟨#[]⟩ : ByteArray), .slice none 0 0]) bk 0 _ rfl) hb); have n2_ := Aside0.mk (below_step bwS hb); clear HO401; clear BK403; clear HB; have HO401 := n0_; have BK403 := n1_; have HB := n2_; clear n0_ n1_ n2_; (try clear hb); (try clear hb2); (try clear hk); (try clear hi)) | ((with_reducible refine gate_callee (f := 38) rfl ?_); refine goesL_ (some 17) rfl rfl Tryd.func38 (by kernel_rfl) rfl #[.string (⟨#[45, 45, 98, 13, 10, 120, 13, 10, 45, 45, 98, 45, 45, 13, 10]⟩ : ByteArray), .string (⟨#[98]⟩ : ByteArray)] rfl am ?_; (with_reducible refine (mime_Split.calls (hG := by first | exact hG | exact Glob.below hG (by first | exact HB.out | (repeat (first | (with_reducible first | exact HB.out | apply below_alloc | apply pw_below_drewN | apply below_drew1 | refine below_set ?_ GE403.out) | exact HB.out))) | exact Glob.drawn hG (d0)) (⟨#[45, 45, 98, 13, 10, 120, 13, 10, 45, 45, 98, 45, 45, 13, 10]⟩ : ByteArray) (⟨#[98]⟩ : ByteArray) t406 t407 _ A3.out).mono ?_); rintro e w66 ⟨v408, rfl, ho0, hb⟩; refine ⟨_, rfl, ?_⟩; have n0_ := Aside0.mk (Kd.R_below (ra HO401.out) hb); have n1_ := Aside0.mk (Kd.R_lower ho0 (below_size bwS)); have n2_ := Aside0.mk (blk_below (g := gb403) (o := .cells #[.string t398, .slice Ao64 t399.length co64] 51 (0, 0)) bk hb); have n3_ := Aside0.mk (below_step bwS hb); clear HO401; clear BK403; clear HB; have HO401 := n0_; have HO409 := n1_; have BK403 := n2_; have HB := n3_; clear n0_ n1_ n2_ n3_; (try clear hb); (try clear hb2); (try clear hk); (try clear hi); (try clear ho0); have hcz67_0 : w66.cell? ⟨gb403, 0, none⟩ = some (.string t398) := (blk_cell BK403.out 0).trans rfl; have hcz67_1 : w66.cell? ⟨gb403, 1, none⟩ = some (.slice Ao64 t399.length co64) := (blk_cell BK403.out 1).trans rfl; have hfz67_0 := blk_frozen BK403.out 0; have hfz67_1 := blk_frozen BK403.out 1))
   go_ret
   exact ⟨ew, bwS⟩
 ·rw [if_neg c4] at H; have c4b0 : (t402 == 0) = false := beq_eq_false_iff_ne.mpr c4; have c4b1 : (t402 != 0) = true := bne_iff_ne.mpr c4; obtain rfl := Option.some.inj H
  go_enter Tryd.func26, Tryd.ntmps26
  go_wp2_with (first | ((with_reducible refine gate_callee (f := 27) rfl ?_); refine goesL_ (some 8) rfl rfl Tryd.func27 (by kernel_rfl) rfl #[.string (⟨#[84, 101, 120, 116, 47, 80, 108, 97, 105, 110, 59, 32, 67, 104, 97, 114, 115, 101, 116, 61, 34, 120, 32, 121, 34]⟩ : ByteArray)] rfl am ?_; (with_reducible refine (mime_ReadType.calls (hG := by first | exact hG | exact Glob.below hG (by first | exact HB.out | (repeat (first | (with_reducible first | exact HB.out | apply below_alloc | apply pw_below_drewN | apply below_drew1 | refine below_set ?_ GE403.out) | exact HB.out))) | exact Glob.drawn hG (d0)) k (⟨#[84, 101, 120, 116, 47, 80, 108, 97, 105, 110, 59, 32, 67, 104, 97, 114, 115, 101, 116, 61, 34, 120, 32, 121, 34]⟩ : ByteArray) t398 t399 t402 _ A1.out).mono ?_); rintro e w68 ⟨v400, rfl, ho0, hb⟩; refine ⟨_, rfl, ?_⟩; have n0_ := Aside0.mk (Kd.R_lower ho0 (below_size bw)); have n1_ := Aside0.mk (below_step bw hb); clear HB; have HO401 := n0_; have HB := n1_; clear n0_ n1_; (try clear hb); (try clear hb2); (try clear hk); (try clear hi); (try clear ho0)) | ((with_reducible refine gate_dst (N := 1) rfl ?_); (try (refine gate_guard (by rfl) ?_; dsimp only)); refine box_event ?hg (N := 1) ?hd (cs := #[.string (⟨#[]⟩ : ByteArray), .slice none 0 0]) (t := 51) ?hr ?_; (case hd => rfl); (case hg => rfl); (case hr => first | (go_simp; done) | (go_simp; rfl)); intro gb403 hg w69 hbox hb; have n0_ := Aside0.mk (Kd.R_below (ra HO401.out) hb); have n1_ := Aside0.mk (below_step bw hb); have n2_ := Aside0.mk (hbox); have n3_ := Aside0.mk ((by rw [hg]; exact (below_size bw) : w.heap.size ≤ gb403)); have n4_ := Aside0.mk ((by rw [hg]; exact (below_size bw) : w.heap.size ≤ gb403)); clear HO401; clear HB; have HO401 := n0_; have HB := n1_; have BK403 := n2_; have GW403 := n3_; have GE403 := n4_; clear n0_ n1_ n2_ n3_ n4_; clear hb hbox hg; have hcz70_0 : w69.cell? ⟨gb403, 0, none⟩ = some (.string (⟨#[]⟩ : ByteArray)) := (blk_cell BK403.out 0).trans rfl; have hcz70_1 : w69.cell? ⟨gb403, 1, none⟩ = some (.slice none 0 0) := (blk_cell BK403.out 1).trans rfl; have hfz70_0 := blk_frozen BK403.out 0; have hfz70_1 := blk_frozen BK403.out 1; obtain ⟨Ao71, co71, eo71⟩ := Kd.R_slice HO401.out; subst eo71) | ((with_reducible refine gate_callee (f := 31) rfl ?_); refine goesL_ (some 13) rfl rfl Tryd.func31 (by kernel_rfl) rfl #[.agg #[.string t398, .slice Ao71 t399.length co71], .string (⟨#[67, 72, 65, 82, 83, 69, 84]⟩ : ByteArray)] rfl am ?_; (with_reducible refine (mime_Type_Value.calls k t398 _ _ t399 (⟨#[67, 72, 65, 82, 83, 69, 84]⟩ : ByteArray) t404 t405 _ ?side1 ?side2 A2.out).mono ?_); (case side1 => refine (Kd.R_reads' (e := 104) (base := w.heap.size) (ok := fun k_ => True) (n := t399.length) (c := co71) ?_).2.2; exact (by (with_reducible repeat (first | apply Kd.R_alloc | apply Kd.R_drewN | apply Kd.R_drew)); exact (Kd.R_mono (Kd.R_far (p := ⟨gb403, 1, none⟩) (Kd.R_far (p := ⟨gb403, 0, none⟩) (Kd.R_types HO401.out BK403.out (by decide)) (fun _ hk => hk.2) (.string t398)) (fun _ hk => hk.2) (.slice Ao71 t399.length co71)) (fun _ h_ => h_.1)))); (case side2 => exact (Kd.R_reads' HO401.out).2.1); rintro e w72 ⟨rfl, hb⟩; refine ⟨_, rfl, ?_⟩; have n0_ := Aside0.mk (Kd.R_below (by (with_reducible repeat (first | apply Kd.R_alloc | apply Kd.R_drewN | apply Kd.R_drew)); exact (Kd.R_mono (Kd.R_far (p := ⟨gb403, 1, none⟩) (Kd.R_far (p := ⟨gb403, 0, none⟩) (Kd.R_types HO401.out BK403.out (by decide)) (fun _ hk => hk.2) (.string t398)) (fun _ hk => hk.2) (.slice Ao71 t399.length co71)) (fun _ h_ => h_.1))) hb); have n1_ := Aside0.mk (blk_below (g := gb403) (o := .cells #[.string t398, .slice Ao71 t399.length co71] 51 (0, 0)) (by (with_reducible repeat (first | refine blk_drewN ?_ _ | refine blk_drew ?_ | refine blk_alloc ?_ _)); refine blk_put (cs := #[.string t398, .slice none 0 0]) ?_ 1 _ rfl; (with_reducible repeat (first | refine blk_drewN ?_ _ | refine blk_drew ?_ | refine blk_alloc ?_ _)); exact blk_put (cs := #[.string (⟨#[]⟩ : ByteArray), .slice none 0 0]) bk 0 _ rfl) hb); have n2_ := Aside0.mk (below_step bwS hb); clear HO401; clear BK403; clear HB; have HO401 := n0_; have BK403 := n1_; have HB := n2_; clear n0_ n1_ n2_; (try clear hb); (try clear hb2); (try clear hk); (try clear hi)) | ((with_reducible refine gate_callee (f := 38) rfl ?_); refine goesL_ (some 17) rfl rfl Tryd.func38 (by kernel_rfl) rfl #[.string (⟨#[45, 45, 98, 13, 10, 120, 13, 10, 45, 45, 98, 45, 45, 13, 10]⟩ : ByteArray), .string (⟨#[98]⟩ : ByteArray)] rfl am ?_; (with_reducible refine (mime_Split.calls (hG := by first | exact hG | exact Glob.below hG (by first | exact HB.out | (repeat (first | (with_reducible first | exact HB.out | apply below_alloc | apply pw_below_drewN | apply below_drew1 | refine below_set ?_ GE403.out) | exact HB.out))) | exact Glob.drawn hG (d0)) (⟨#[45, 45, 98, 13, 10, 120, 13, 10, 45, 45, 98, 45, 45, 13, 10]⟩ : ByteArray) (⟨#[98]⟩ : ByteArray) t406 t407 _ A3.out).mono ?_); rintro e w73 ⟨v408, rfl, ho0, hb⟩; refine ⟨_, rfl, ?_⟩; have n0_ := Aside0.mk (Kd.R_below (ra HO401.out) hb); have n1_ := Aside0.mk (Kd.R_lower ho0 (below_size bwS)); have n2_ := Aside0.mk (blk_below (g := gb403) (o := .cells #[.string t398, .slice Ao71 t399.length co71] 51 (0, 0)) bk hb); have n3_ := Aside0.mk (below_step bwS hb); clear HO401; clear BK403; clear HB; have HO401 := n0_; have HO409 := n1_; have BK403 := n2_; have HB := n3_; clear n0_ n1_ n2_ n3_; (try clear hb); (try clear hb2); (try clear hk); (try clear hi); (try clear ho0)))
  go_ret
  exact ⟨ew, bwS⟩

end Go.Proofs.YtoikneogdbdplaaDoor.Fn
namespace Go.Proofs.YtoikneogdbdplaaDoor.Fn
open Go.RowKit Go.Proofs.YtoikneogdbdplaaDoorW.PrintWords Go.Proofs.YtoikneogdbdplaaDoorW.PrintLast Go.Proofs.YtoikneogdbdplaaDoorW.PrintMore
attribute [local go_sem] max2_int min2_int max_two min_two max_three min_three max_four min_four
set_option linter.unusedVariables false
set_option linter.unusedSimpArgs false

def bulletinref06_Fold.l0 : Nat → ByteArray → ByteArray → Int → Option (ByteArray)
 | 0, _, _, _ => none
 | k + 1, x0, x3, x4 => if x4 < (x0.size : Int) then (if 0 ≤ x4 then (if (bt x0 x4) ≥ 65 then (if (bt x0 x4) ≤ 90 then ((some (([((bt x0 x4) + 32) % 256] : List Int) : List Int)).bind fun y192 => (if x3.size + (strOfNums y192).size ≤ 9223372036854775807 then (bulletinref06_Fold.l0 k x0 (x3 ++ (strOfNums y192)) (wrap64 (x4 + 1))) else (none))) else (if x4 ≤ (wrap64 (x4 + 1)) then (if (wrap64 (x4 + 1)) ≤ (x0.size : Int) then (if x3.size + (x0.extract (x4 : Int).toNat ((wrap64 (x4 + 1)) : Int).toNat).size ≤ 9223372036854775807 then (bulletinref06_Fold.l0 k x0 (x3 ++ (x0.extract (x4 : Int).toNat ((wrap64 (x4 + 1)) : Int).toNat)) (wrap64 (x4 + 1))) else (none)) else (none)) else (none))) else (if x4 ≤ (wrap64 (x4 + 1)) then (if (wrap64 (x4 + 1)) ≤ (x0.size : Int) then (if x3.size + (x0.extract (x4 : Int).toNat ((wrap64 (x4 + 1)) : Int).toNat).size ≤ 9223372036854775807 then (bulletinref06_Fold.l0 k x0 (x3 ++ (x0.extract (x4 : Int).toNat ((wrap64 (x4 + 1)) : Int).toNat)) (wrap64 (x4 + 1))) else (none)) else (none)) else (none))) else (none)) else (some x3)
def bulletinref06_Fold.f (k : Nat) (a0 : ByteArray) : Option (ByteArray) := bulletinref06_Fold.l0 k a0 (⟨#[]⟩ : ByteArray) 0
set_option maxHeartbeats 8000000 in
set_option maxRecDepth 100000 in
theorem bulletinref06_Fold.calls (k : Nat) (a0 : ByteArray) (r : ByteArray) (w : World) (h : bulletinref06_Fold.f k a0 = some r) :
  Calls Tryd.prog 60 #[.string a0] w fun e w' => e = .returned (.string r) ∧ Below w.heap.size w w' := by
 have HB := Aside0.mk (Below.refl w.heap.size w); have H : (bulletinref06_Fold.l0 k a0 (⟨#[]⟩ : ByteArray) 0) = some r := h; clear h; have H' := Aside0.mk H; clear H
 go_enter Tryd.func60, Tryd.ntmps60
 go_wp2
 go_loopg [3, 4] k (fun kq v3 v4 w' => ∃ (x3_1 : ByteArray) (x4_1 : Int), v3 = .string x3_1 ∧ v4 = .int .i64 x4_1 ∧ Aside0 (bulletinref06_Fold.l0 kq a0 x3_1 x4_1 = some r) ∧ Aside0 (kq ≤ k) ∧ Aside0 (Below w.heap.size w w'))
 case atStart => exact ⟨((⟨#[]⟩ : ByteArray)), (0), cl, cl, H', ⟨Nat.le_refl _⟩, ⟨bw⟩⟩
 case round =>
  clear H'; obtain ⟨x3_1, x4_1, rfl, rfl, HA, HK1, HB⟩ := hrel; cases gk with
  | zero => exact absurd HA.out (by simp [bulletinref06_Fold.l0])
  | succ k1 =>
   have H := HA.out; clear HA; simp only [bulletinref06_Fold.l0] at H
   by_cases c2 : x4_1 < (a0.size : Int)
   ·rw [if_pos c2] at H; have c2b0 : decide (x4_1 < (a0.size : Int)) = true := decide_eq_true c2; clear c2
    by_cases c3 : 0 ≤ x4_1
    ·rw [if_pos c3] at H; have c3b0 : decide (0 ≤ x4_1) = true := decide_eq_true c3; clear c3
     by_cases c5 : (bt a0 x4_1) ≥ 65
     ·rw [if_pos c5] at H; have c5b0 : decide (65 ≤ (bt a0 x4_1)) = true := decide_eq_true c5; clear c5
      by_cases c7 : (bt a0 x4_1) ≤ 90
      ·rw [if_pos c7] at H; have c7b0 : decide ((bt a0 x4_1) ≤ 90) = true := decide_eq_true c7; clear c7; obtain ⟨y192, hy192⟩ : ∃ y_ : List Int, y_ = (([((bt a0 x4_1) + 32) % 256] : List Int)) := ⟨_, rfl⟩
       replace H : (if x3_1.size + (strOfNums y192).size ≤ 9223372036854775807 then (bulletinref06_Fold.l0 k1 a0 (x3_1 ++ (strOfNums y192)) (wrap64 (x4_1 + 1))) else (none)) = some r := by first | (rw [hy192]; with_reducible exact H) | (have H2_ := (Option.bind_some _ _).symm.trans H; rw [hy192]; with_reducible exact H2_) | (have H2_ := (Option.bind_some _ _).symm.trans H; with_reducible exact H2_) | with_reducible exact H | (rw [hy192]; exact H) | exact H
       have Ny192 := Aside0.mk hy192; clear hy192
       by_cases c9 : x3_1.size + (strOfNums y192).size ≤ 9223372036854775807
       ·rw [if_pos c9] at H; have c9b0 := eq_true c9; have c9b1 : decide (x3_1.size + (strOfNums y192).size ≤ 9223372036854775807) = true := decide_eq_true c9
        try have c9b2 : (9223372036854775807 < x3_1.size + (strOfNums y192).size) = False := eq_false (Nat.not_lt.2 c9)
        have H' := Aside0.mk H; clear H; have p4 : 0 ≤ (x4_1 : Int) := od; have q4 : x4_1 < (a0.size : Int) := od; have hx4 := bt_at a0 x4_1; replace p4 := eq_true p4; replace q4 := eq_true q4; have p6 : 0 ≤ (x4_1 : Int) := od; have q6 : x4_1 < (a0.size : Int) := od; have hx6 := bt_at a0 x4_1; replace p6 := eq_true p6; replace q6 := eq_true q6; have p8 : 0 ≤ (x4_1 : Int) := od; have q8 : x4_1 < (a0.size : Int) := od; have hx8 := bt_at a0 x4_1; replace p8 := eq_true p8; replace q8 := eq_true q8
        go_wp2_with (first | ((with_reducible refine gate_dst (N := 26) rfl ?_); refine Kd.R_lit (Kd.int .u8) _ 5 ?hg (N := 26) ?hd (xs := ([((bt a0 x4_1) + 32) % 256] : List Int)) (inner := [.int .u8 (((bt a0 x4_1) + 32) % 256)]) (ok := fun _ => True) (okp := fun _ => True) ?hr ?hp (fun _ hk => hk) trivial (Below.refl _ _) (Nat.le_refl _) (by simp) ?_; (case hd => rfl); (case hg => rfl); (case hr => first | (go_simp; done) | (go_simp; rfl)); (case hp => exact (Reps.one (show Kd.M (Kd.int .u8) _ _ _ (((bt a0 x4_1) + 32) % 256) [.int .u8 (((bt a0 x4_1) + 32) % 256)] from rfl) (Reps.none _ _))); intro v193 w10 ho11 hb hg_ hnew_; clear hg_ hnew_; (first | rw [← Ny192.out] at ho11 | (simp only [Int.reduceToNat] at ho11; rw [← Ny192.out] at ho11)); have n0_ := Aside0.mk (Kd.R_lower ho11 (below_size bw)); have n1_ := Aside0.mk (below_step bw hb); clear HB; have HO194 := n0_; have HB := n1_; clear n0_ n1_; clear hb ho11; have hcv12 := own_string (P := Tryd.prog) Tryd.underlying116 Tryd.underlying5 Tryd.underlying9 (Kd.own_of_R HO194.out)))
        go_roundg k1
        case measure => have := HK1.out; omega
        case rel => exact ⟨(x3_1 ++ (strOfNums y192)), (wrap64 (x4_1 + 1)), cl, cl, H', ⟨by have := HK1.out; omega⟩, ⟨bw⟩⟩
       ·rw [if_neg c9] at H; exact absurd H (by simp)
      ·rw [if_neg c7] at H; have c7b0 : decide ((bt a0 x4_1) ≤ 90) = false := decide_eq_false c7; clear c7; have c13b0 := eq_true (od : 0 ≤ x4_1)
       by_cases c14 : x4_1 ≤ (wrap64 (x4_1 + 1))
       ·rw [if_pos c14] at H; have c14b0 := eq_true c14; have c14b1 : decide (x4_1 ≤ (wrap64 (x4_1 + 1))) = true := decide_eq_true c14
        by_cases c15 : (wrap64 (x4_1 + 1)) ≤ (a0.size : Int)
        ·rw [if_pos c15] at H; have c15b0 := eq_true c15; have c15b1 : decide ((wrap64 (x4_1 + 1)) ≤ (a0.size : Int)) = true := decide_eq_true c15
         by_cases c16 : x3_1.size + (a0.extract (x4_1 : Int).toNat ((wrap64 (x4_1 + 1)) : Int).toNat).size ≤ 9223372036854775807
         ·rw [if_pos c16] at H; have c16b0 := eq_true c16; have c16b1 : decide (x3_1.size + (a0.extract (x4_1 : Int).toNat ((wrap64 (x4_1 + 1)) : Int).toNat).size ≤ 9223372036854775807) = true := decide_eq_true c16
          try have c16b2 : (9223372036854775807 < x3_1.size + (a0.extract (x4_1 : Int).toNat ((wrap64 (x4_1 + 1)) : Int).toNat).size) = False := eq_false (Nat.not_lt.2 c16)
          try (have c16b3 := c16; simp only [ByteArray.size_append, size_lit, ByteArray.size_extract, List.size_toArray, List.length_cons, List.length_nil, Nat.zero_add, Nat.reduceAdd] at c16b3; have c16b4 := eq_false (Nat.not_lt.2 c16b3))
          have H' := Aside0.mk H; clear H; have p4 : 0 ≤ (x4_1 : Int) := od; have q4 : x4_1 < (a0.size : Int) := od; have hx4 := bt_at a0 x4_1; replace p4 := eq_true p4; replace q4 := eq_true q4; have p6 : 0 ≤ (x4_1 : Int) := od; have q6 : x4_1 < (a0.size : Int) := od; have hx6 := bt_at a0 x4_1; replace p6 := eq_true p6; replace q6 := eq_true q6
          go_wp2
          go_roundg k1
          case measure => have := HK1.out; omega
          case rel => exact ⟨(x3_1 ++ (a0.extract (x4_1 : Int).toNat ((wrap64 (x4_1 + 1)) : Int).toNat)), (wrap64 (x4_1 + 1)), cl, cl, H', ⟨by have := HK1.out; omega⟩, ⟨bw⟩⟩
         ·rw [if_neg c16] at H; exact absurd H (by simp)
        ·rw [if_neg c15] at H; exact absurd H (by simp)
       ·rw [if_neg c14] at H; exact absurd H (by simp)
     ·rw [if_neg c5] at H; have c5b0 : decide (65 ≤ (bt a0 x4_1)) = false := decide_eq_false c5; clear c5; have c17b0 := eq_true (od : 0 ≤ x4_1)
      by_cases c18 : x4_1 ≤ (wrap64 (x4_1 + 1))
      ·rw [if_pos c18] at H; have c18b0 := eq_true c18; have c18b1 : decide (x4_1 ≤ (wrap64 (x4_1 + 1))) = true := decide_eq_true c18
       by_cases c19 : (wrap64 (x4_1 + 1)) ≤ (a0.size : Int)
       ·rw [if_pos c19] at H; have c19b0 := eq_true c19; have c19b1 : decide ((wrap64 (x4_1 + 1)) ≤ (a0.size : Int)) = true := decide_eq_true c19
        by_cases c20 : x3_1.size + (a0.extract (x4_1 : Int).toNat ((wrap64 (x4_1 + 1)) : Int).toNat).size ≤ 9223372036854775807
        ·rw [if_pos c20] at H; have c20b0 := eq_true c20; have c20b1 : decide (x3_1.size + (a0.extract (x4_1 : Int).toNat ((wrap64 (x4_1 + 1)) : Int).toNat).size ≤ 9223372036854775807) = true := decide_eq_true c20
         try have c20b2 : (9223372036854775807 < x3_1.size + (a0.extract (x4_1 : Int).toNat ((wrap64 (x4_1 + 1)) : Int).toNat).size) = False := eq_false (Nat.not_lt.2 c20)
         try (have c20b3 := c20; simp only [ByteArray.size_append, size_lit, ByteArray.size_extract, List.size_toArray, List.length_cons, List.length_nil, Nat.zero_add, Nat.reduceAdd] at c20b3; have c20b4 := eq_false (Nat.not_lt.2 c20b3))
         have H' := Aside0.mk H; clear H; have p4 : 0 ≤ (x4_1 : Int) := od; have q4 : x4_1 < (a0.size : Int) := od; have hx4 := bt_at a0 x4_1; replace p4 := eq_true p4; replace q4 := eq_true q4
         go_wp2
         go_roundg k1
         case measure => have := HK1.out; omega
         case rel => exact ⟨(x3_1 ++ (a0.extract (x4_1 : Int).toNat ((wrap64 (x4_1 + 1)) : Int).toNat)), (wrap64 (x4_1 + 1)), cl, cl, H', ⟨by have := HK1.out; omega⟩, ⟨bw⟩⟩
        ·rw [if_neg c20] at H; exact absurd H (by simp)
       ·rw [if_neg c19] at H; exact absurd H (by simp)
      ·rw [if_neg c18] at H; exact absurd H (by simp)
    ·rw [if_neg c3] at H; exact absurd H (by simp)
   ·rw [if_neg c2] at H; have c2b0 : decide (x4_1 < (a0.size : Int)) = false := decide_eq_false c2; clear c2; obtain rfl := Option.some.inj H
    go_wp2
    go_ret
    exact ⟨ew, bw⟩

end Go.Proofs.YtoikneogdbdplaaDoor.Fn
namespace Go.Proofs.YtoikneogdbdplaaDoor.Fn
open Go.RowKit Go.Proofs.YtoikneogdbdplaaDoorW.PrintWords Go.Proofs.YtoikneogdbdplaaDoorW.PrintLast Go.Proofs.YtoikneogdbdplaaDoorW.PrintMore
attribute [local go_sem] max2_int min2_int max_two min_two max_three min_three max_four min_four
set_option linter.unusedVariables false
set_option linter.unusedSimpArgs false

def bulletinref12_among.l0 : Nat → Int → ByteArray → Int → Option (Bool)
 | 0, _, _, _ => none
 | k + 1, x0, x1, x5 => if x5 < (x1.size : Int) then (if 0 ≤ x5 then (if (bt x1 x5) = x0 then (some true) else (bulletinref12_among.l0 k x0 x1 (wrap64 (x5 + 1)))) else (none)) else (some false)
def bulletinref12_among.f (k : Nat) (a0 : Int) (a1 : ByteArray) : Option (Bool) := bulletinref12_among.l0 k a0 a1 0
theorem bulletinref12_among.mono_l : ∀ k, (∀ y0 y1 y2, LeO (bulletinref12_among.l0 k y0 y1 y2) (bulletinref12_among.l0 (k + 1) y0 y1 y2))
 | 0 => fun _ _ _ r h => by simp [bulletinref12_among.l0] at h
 | k + 1 => by
  have ih0 := bulletinref12_among.mono_l k
  ·intro y0 y1 y2; unfold bulletinref12_among.l0
   repeat' first
   | (with_reducible exact ih0 _ _ _)
   | (with_reducible exact LeO.refl _)
   | (with_reducible exact LeO.none _)
   | (with_reducible refine LeO.ite ?_ ?_)
   | (with_reducible refine LeO.bind ?_ (fun _ => ?_))
   | exact ih0 _ _ _
   | exact LeO.none _
   | refine LeO.ite ?_ ?_
   | refine LeO.bind ?_ (fun _ => ?_)
theorem bulletinref12_among.mono : ∀ a0 a1 k, LeO (bulletinref12_among.f k a0 a1) (bulletinref12_among.f (k + 1) a0 a1) := by
 intro a0 a1 k; have ih0 := bulletinref12_among.mono_l k; unfold bulletinref12_among.f
 repeat' first
   | (with_reducible exact ih0 _ _ _)
   | (with_reducible exact LeO.refl _)
   | (with_reducible exact LeO.none _)
   | (with_reducible refine LeO.ite ?_ ?_)
   | (with_reducible refine LeO.bind ?_ (fun _ => ?_))
   | exact ih0 _ _ _
   | exact LeO.none _
   | refine LeO.ite ?_ ?_
   | refine LeO.bind ?_ (fun _ => ?_)
set_option maxHeartbeats 8000000 in
set_option maxRecDepth 100000 in
theorem bulletinref12_among.calls (k : Nat) (a0 : Int) (a1 : ByteArray) (r : Bool) (w : World) (h : bulletinref12_among.f k a0 a1 = some r) :
  Calls Tryd.prog 106 #[.int .u8 a0, .string a1] w fun e w' => e = .returned (.bool r) ∧ Drawn0 w w' := by
 have H : (bulletinref12_among.l0 k a0 a1 0) = some r := h; clear h; have H' := Aside0.mk H; clear H
 go_enter Tryd.func106, Tryd.ntmps106
 go_wp2
 go_loopg [5] k (fun kq v5 w' => ∃ (x5_1 : Int), v5 = .int .i64 x5_1 ∧ Aside0 (bulletinref12_among.l0 kq a0 a1 x5_1 = some r) ∧ Aside0 (kq ≤ k) ∧ Drawn0 w w')
 case atStart => exact ⟨(0), cl, H', ⟨Nat.le_refl _⟩, d0⟩
 case round =>
  clear H'
  try clear c1
  try clear p2
  obtain ⟨x5_1, rfl, HA, HK1, ⟨m1, rfl⟩⟩ := hrel; cases gk with
  | zero => exact absurd HA.out (by simp [bulletinref12_among.l0])
  | succ k1 =>
   have H := HA.out; clear HA; simp only [bulletinref12_among.l0] at H
   by_cases c3 : x5_1 < (a1.size : Int)
   ·rw [if_pos c3] at H; have c3b0 : decide (x5_1 < (a1.size : Int)) = true := decide_eq_true c3; clear c3
    by_cases c4 : 0 ≤ x5_1
    ·rw [if_pos c4] at H; have c4b0 : decide (0 ≤ x5_1) = true := decide_eq_true c4; clear c4
     by_cases c6 : (bt a1 x5_1) = a0
     ·rw [if_pos c6] at H; have c6b0 : ((bt a1 x5_1) == a0) = true := beq_iff_eq.mpr c6; have c6b1 : ((bt a1 x5_1) != a0) = false := bne_eq_false_iff_eq.mpr c6; clear c6; obtain rfl := Option.some.inj H; have p5 : 0 ≤ (x5_1 : Int) := od; have q5 : x5_1 < (a1.size : Int) := od; have hx5 := bt_at a1 x5_1; replace p5 := eq_true p5; replace q5 := eq_true q5
      go_wp2
      go_ret
      exact ⟨cl, d0⟩
     ·rw [if_neg c6] at H; have c6b0 : ((bt a1 x5_1) == a0) = false := beq_eq_false_iff_ne.mpr c6; have c6b1 : ((bt a1 x5_1) != a0) = true := bne_iff_ne.mpr c6; have H' := Aside0.mk H; clear H; have p5 : 0 ≤ (x5_1 : Int) := od; have q5 : x5_1 < (a1.size : Int) := od; have hx5 := bt_at a1 x5_1; replace p5 := eq_true p5; replace q5 := eq_true q5
      go_wp2
      go_roundg k1
      case measure => have := HK1.out; omega
      case rel => exact ⟨(wrap64 (x5_1 + 1)), cl, H', ⟨by have := HK1.out; omega⟩, d0⟩
    ·rw [if_neg c4] at H; exact absurd H (by simp)
   ·rw [if_neg c3] at H; have c3b0 : decide (x5_1 < (a1.size : Int)) = false := decide_eq_false c3; clear c3; obtain rfl := Option.some.inj H
    go_wp2
    go_ret
    exact ⟨cl, d0⟩

end Go.Proofs.YtoikneogdbdplaaDoor.Fn
namespace Go.Proofs.YtoikneogdbdplaaDoor.Fn
open Go.RowKit Go.Proofs.YtoikneogdbdplaaDoorW.PrintWords Go.Proofs.YtoikneogdbdplaaDoorW.PrintLast Go.Proofs.YtoikneogdbdplaaDoorW.PrintMore
attribute [local go_sem] max2_int min2_int max_two min_two max_three min_three max_four min_four
set_option linter.unusedVariables false
set_option linter.unusedSimpArgs false

def bulletinref12_atomic.f (k : Nat) (a0 : Int) : Option (Bool) := if a0 > 127 then (some true) else (if a0 > 32 then (if a0 < 127 then ((bulletinref12_among.f k a0 (⟨#[40, 41, 60, 62, 91, 93, 58, 59, 64, 44, 46, 92, 34]⟩ : ByteArray)).bind fun t412 => (some (!t412))) else (some false)) else (some false))
theorem bulletinref12_atomic.mono : ∀ a0 k, LeO (bulletinref12_atomic.f k a0) (bulletinref12_atomic.f (k + 1) a0) := by
 intro a0 k; unfold bulletinref12_atomic.f
 repeat' first
   | (with_reducible exact bulletinref12_among.mono _ _ _)
   | (with_reducible exact LeO.refl _)
   | (with_reducible exact LeO.none _)
   | (with_reducible refine LeO.ite ?_ ?_)
   | (with_reducible refine LeO.bind ?_ (fun _ => ?_))
   | exact bulletinref12_among.mono _ _ _
   | exact LeO.none _
   | refine LeO.ite ?_ ?_
   | refine LeO.bind ?_ (fun _ => ?_)
set_option maxHeartbeats 8000000 in
set_option maxRecDepth 100000 in
theorem bulletinref12_atomic.calls (k : Nat) (a0 : Int) (r : Bool) (w : World) (h : bulletinref12_atomic.f k a0 = some r) :
  Calls Tryd.prog 105 #[.int .u8 a0] w fun e w' => e = .returned (.bool r) ∧ Drawn0 w w' := by
 have H : (if a0 > 127 then (some true) else (if a0 > 32 then (if a0 < 127 then ((bulletinref12_among.f k a0 (⟨#[40, 41, 60, 62, 91, 93, 58, 59, 64, 44, 46, 92, 34]⟩ : ByteArray)).bind fun t412 => (some (!t412))) else (some false)) else (some false))) = some r := h; clear h
 by_cases c2 : a0 > 127
 ·rw [if_pos c2] at H; have c2b0 : decide (127 < a0) = true := decide_eq_true c2; clear c2; obtain rfl := Option.some.inj H
  go_enter Tryd.func105, Tryd.ntmps105
  go_wp2
  go_ret
  exact ⟨cl, d0⟩
 ·rw [if_neg c2] at H; have c2b0 : decide (127 < a0) = false := decide_eq_false c2; clear c2
  by_cases c3 : a0 > 32
  ·rw [if_pos c3] at H; have c3b0 : decide (32 < a0) = true := decide_eq_true c3; clear c3
   by_cases c4 : a0 < 127
   ·rw [if_pos c4] at H; have c4b0 : decide (a0 < 127) = true := decide_eq_true c4; clear c4; replace H := Option.bind_eq_some_iff.mp H; obtain ⟨t412, A50, H⟩ := H; replace H : (some (!t412)) = some r := H; have A5 := Aside0.mk A50; clear A50; obtain rfl := Option.some.inj H
    go_enter Tryd.func105, Tryd.ntmps105
    go_wp2_with (first | (go_at_call 106; (with_reducible refine (bulletinref12_among.calls k a0 (⟨#[40, 41, 60, 62, 91, 93, 58, 59, 64, 44, 46, 92, 34]⟩ : ByteArray) t412 _ A5.out).mono ?_); rintro e w' ⟨rfl, ⟨nd, rfl⟩⟩))
    go_ret
    exact ⟨cl, d0⟩
   ·rw [if_neg c4] at H; have c4b0 : decide (a0 < 127) = false := decide_eq_false c4; clear c4; obtain rfl := Option.some.inj H
    go_enter Tryd.func105, Tryd.ntmps105
    go_wp2
    go_ret
    exact ⟨cl, d0⟩
  ·rw [if_neg c3] at H; have c3b0 : decide (32 < a0) = false := decide_eq_false c3; clear c3; obtain rfl := Option.some.inj H
   go_enter Tryd.func105, Tryd.ntmps105
   go_wp2
   go_ret
   exact ⟨cl, d0⟩

end Go.Proofs.YtoikneogdbdplaaDoor.Fn
namespace Go.Proofs.YtoikneogdbdplaaDoor.Fn
open Go.RowKit Go.Proofs.YtoikneogdbdplaaDoorW.PrintWords Go.Proofs.YtoikneogdbdplaaDoorW.PrintLast Go.Proofs.YtoikneogdbdplaaDoorW.PrintMore
attribute [local go_sem] max2_int min2_int max_two min_two max_three min_three max_four min_four
set_option linter.unusedVariables false
set_option linter.unusedSimpArgs false

def bulletinref12_IsAtom.l0 : Nat → ByteArray → Int → Option (Bool)
 | 0, _, _ => none
 | k + 1, x0, x3 => if x3 < (x0.size : Int) then (if 0 ≤ x3 then ((bulletinref12_atomic.f k (bt x0 x3)).bind fun t430 => (if t430 = true then (bulletinref12_IsAtom.l0 k x0 (wrap64 (x3 + 1))) else (some false))) else (none)) else (some true)
def bulletinref12_IsAtom.f (k : Nat) (a0 : ByteArray) : Option (Bool) := if a0.toList = ([] : List UInt8) then (some false) else (bulletinref12_IsAtom.l0 k a0 0)
set_option maxHeartbeats 8000000 in
set_option maxRecDepth 100000 in
theorem bulletinref12_IsAtom.calls (k : Nat) (a0 : ByteArray) (r : Bool) (w : World) (h : bulletinref12_IsAtom.f k a0 = some r) :
  Calls Tryd.prog 68 #[.string a0] w fun e w' => e = .returned (.bool r) ∧ Drawn0 w w' := by
 have H : (if a0.toList = ([] : List UInt8) then (some false) else (bulletinref12_IsAtom.l0 k a0 0)) = some r := h; clear h
 by_cases c2 : a0.toList = ([] : List UInt8)
 ·rw [if_pos c2] at H; have c2b0 : (a0.toList == ([] : List UInt8)) = true := beq_iff_eq.mpr c2; have c2b1 : (a0.toList != ([] : List UInt8)) = false := bne_eq_false_iff_eq.mpr c2; clear c2; obtain rfl := Option.some.inj H
  go_enter Tryd.func68, Tryd.ntmps68
  go_wp2
  go_ret
  exact ⟨cl, d0⟩
 ·rw [if_neg c2] at H; have c2b0 : (a0.toList == ([] : List UInt8)) = false := beq_eq_false_iff_ne.mpr c2; have c2b1 : (a0.toList != ([] : List UInt8)) = true := bne_iff_ne.mpr c2; have H' := Aside0.mk H; clear H
  go_enter Tryd.func68, Tryd.ntmps68
  go_wp2
  go_loopg [3] k (fun kq v3 w' => ∃ (x3_1 : Int), v3 = .int .i64 x3_1 ∧ Aside0 (bulletinref12_IsAtom.l0 kq a0 x3_1 = some r) ∧ Aside0 (kq ≤ k) ∧ Drawn0 w w')
  case atStart => exact ⟨(0), cl, H', ⟨Nat.le_refl _⟩, d0⟩
  case round =>
   clear H'
   try clear c2
   try clear c2b0
   try clear c2b1
   try clear p2
   obtain ⟨x3_1, rfl, HA, HK1, ⟨m1, rfl⟩⟩ := hrel; cases gk with
   | zero => exact absurd HA.out (by simp [bulletinref12_IsAtom.l0])
   | succ k1 =>
    have H := HA.out; clear HA; simp only [bulletinref12_IsAtom.l0] at H
    by_cases c3 : x3_1 < (a0.size : Int)
    ·rw [if_pos c3] at H; have c3b0 : decide (x3_1 < (a0.size : Int)) = true := decide_eq_true c3; clear c3
     by_cases c4 : 0 ≤ x3_1
     ·rw [if_pos c4] at H; have c4b0 : decide (0 ≤ x3_1) = true := decide_eq_true c4; clear c4; replace H := Option.bind_eq_some_iff.mp H; obtain ⟨t430, A60, H⟩ := H; replace H : (if t430 = true then (bulletinref12_IsAtom.l0 k1 a0 (wrap64 (x3_1 + 1))) else (some false)) = some r := H; have A6 := Aside0.mk A60; clear A60
      by_cases c7 : t430 = true
      ·subst c7; have H1 : (bulletinref12_IsAtom.l0 k1 a0 (wrap64 (x3_1 + 1))) = some r := by rw [if_pos rfl] at H; exact H
       clear H; have H := H1; clear H1; have H' := Aside0.mk H; clear H; have p5 : 0 ≤ (x3_1 : Int) := od; have q5 : x3_1 < (a0.size : Int) := od; have hx5 := bt_at a0 x3_1; replace p5 := eq_true p5; replace q5 := eq_true q5
       go_wp2_with (first | ((with_reducible refine gate_callee (f := 105) rfl ?_); refine goesL_ (some 15) rfl rfl Tryd.func105 (by kernel_rfl) rfl #[.int .u8 (bt a0 x3_1)] rfl am ?_; (with_reducible refine (bulletinref12_atomic.calls k1 (bt a0 x3_1) true _ A6.out).mono ?_); rintro e w' ⟨rfl, ⟨nd, rfl⟩⟩; refine ⟨_, rfl, ?_⟩))
       go_roundg k1
       case measure => have := HK1.out; omega
       case rel => exact ⟨(wrap64 (x3_1 + 1)), cl, H', ⟨by have := HK1.out; omega⟩, d0⟩
      ·replace c7 := Bool.eq_false_iff.mpr c7; subst c7; have H1 : (some false) = some r := by rw [if_neg (show ¬ (false = true) by decide)] at H; exact H
       clear H; have H := H1; clear H1; obtain rfl := Option.some.inj H; have p5 : 0 ≤ (x3_1 : Int) := od; have q5 : x3_1 < (a0.size : Int) := od; have hx5 := bt_at a0 x3_1; replace p5 := eq_true p5; replace q5 := eq_true q5
       go_wp2_with (first | ((with_reducible refine gate_callee (f := 105) rfl ?_); refine goesL_ (some 15) rfl rfl Tryd.func105 (by kernel_rfl) rfl #[.int .u8 (bt a0 x3_1)] rfl am ?_; (with_reducible refine (bulletinref12_atomic.calls k1 (bt a0 x3_1) false _ A6.out).mono ?_); rintro e w' ⟨rfl, ⟨nd, rfl⟩⟩; refine ⟨_, rfl, ?_⟩))
       go_ret
       exact ⟨cl, d0⟩
     ·rw [if_neg c4] at H; exact absurd H (by simp)
    ·rw [if_neg c3] at H; have c3b0 : decide (x3_1 < (a0.size : Int)) = false := decide_eq_false c3; clear c3; obtain rfl := Option.some.inj H
     go_wp2
     go_ret
     exact ⟨cl, d0⟩

end Go.Proofs.YtoikneogdbdplaaDoor.Fn
namespace Go.Proofs.YtoikneogdbdplaaDoor.Fn
open Go.RowKit Go.Proofs.YtoikneogdbdplaaDoorW.PrintWords Go.Proofs.YtoikneogdbdplaaDoorW.PrintLast Go.Proofs.YtoikneogdbdplaaDoorW.PrintMore
attribute [local go_sem] max2_int min2_int max_two min_two max_three min_three max_four min_four
set_option linter.unusedVariables false
set_option linter.unusedSimpArgs false

def bulletinref12_Text.f (a0 : Int) : Option (Bool) := if a0 = 9 then (some true) else (if a0 ≥ 32 then (if a0 ≤ 126 then (some true) else (some (decide (a0 > 127)))) else (some (decide (a0 > 127))))
set_option maxHeartbeats 8000000 in
set_option maxRecDepth 100000 in
theorem bulletinref12_Text.calls (a0 : Int) (r : Bool) (w : World) (h : bulletinref12_Text.f a0 = some r) :
  Calls Tryd.prog 104 #[.int .u8 a0] w fun e w' => e = .returned (.bool r) ∧ Drawn0 w w' := by
 have H : (if a0 = 9 then (some true) else (if a0 ≥ 32 then (if a0 ≤ 126 then (some true) else (some (decide (a0 > 127)))) else (some (decide (a0 > 127))))) = some r := h; clear h
 by_cases c2 : a0 = 9
 ·rw [if_pos c2] at H; have c2b0 : (a0 == 9) = true := beq_iff_eq.mpr c2; have c2b1 : (a0 != 9) = false := bne_eq_false_iff_eq.mpr c2; clear c2; obtain rfl := Option.some.inj H
  go_enter Tryd.func104, Tryd.ntmps104
  go_wp2
  go_ret
  exact ⟨cl, d0⟩
 ·rw [if_neg c2] at H; have c2b0 : (a0 == 9) = false := beq_eq_false_iff_ne.mpr c2; have c2b1 : (a0 != 9) = true := bne_iff_ne.mpr c2
  by_cases c3 : a0 ≥ 32
  ·rw [if_pos c3] at H; have c3b0 : decide (32 ≤ a0) = true := decide_eq_true c3; clear c3
   by_cases c4 : a0 ≤ 126
   ·rw [if_pos c4] at H; have c4b0 : decide (a0 ≤ 126) = true := decide_eq_true c4; clear c4; obtain rfl := Option.some.inj H
    go_enter Tryd.func104, Tryd.ntmps104
    go_wp2
    go_ret
    exact ⟨cl, d0⟩
   ·rw [if_neg c4] at H; have c4b0 : decide (a0 ≤ 126) = false := decide_eq_false c4; clear c4; obtain rfl := Option.some.inj H
    go_enter Tryd.func104, Tryd.ntmps104
    go_wp2
    go_ret
    exact ⟨cl, d0⟩
  ·rw [if_neg c3] at H; have c3b0 : decide (32 ≤ a0) = false := decide_eq_false c3; clear c3; obtain rfl := Option.some.inj H
   go_enter Tryd.func104, Tryd.ntmps104
   go_wp2
   go_ret
   exact ⟨cl, d0⟩

end Go.Proofs.YtoikneogdbdplaaDoor.Fn
namespace Go.Proofs.YtoikneogdbdplaaDoor.Fn
open Go.RowKit Go.Proofs.YtoikneogdbdplaaDoorW.PrintWords Go.Proofs.YtoikneogdbdplaaDoorW.PrintLast Go.Proofs.YtoikneogdbdplaaDoorW.PrintMore
attribute [local go_sem] max2_int min2_int max_two min_two max_three min_three max_four min_four
set_option linter.unusedVariables false
set_option linter.unusedSimpArgs false

mutual
def bulletinref12_Scan.l0 : Nat → ByteArray → List (S109) → ByteArray → Int → Int → Bool → Int → Option ((List (S109)) × Int)
 | 0, _, _, _, _, _, _, _ => none
 | k + 1, x0, x4, x5, x6, x7, x8, x9 => if x9 < (x0.size : Int) then (if 0 ≤ x9 then (if x8 = true then ((bulletinref12_Text.f (bt x0 x9)).bind fun t413 => (if t413 = true then (if x6 = 2 then (if x9 ≤ (wrap64 (x9 + 1)) then (if (wrap64 (x9 + 1)) ≤ (x0.size : Int) then (if x5.size + (x0.extract (x9 : Int).toNat ((wrap64 (x9 + 1)) : Int).toNat).size ≤ 9223372036854775807 then (bulletinref12_Scan.l0 k x0 x4 (x5 ++ (x0.extract (x9 : Int).toNat ((wrap64 (x9 + 1)) : Int).toNat)) x6 x7 false (wrap64 (x9 + 1))) else (none)) else (none)) else (none)) else (bulletinref12_Scan.l0 k x0 x4 x5 x6 x7 false (wrap64 (x9 + 1)))) else (some (([] : List (S109)), 3)))) else (if x6 = 1 then ((bulletinref12_atomic.f k (bt x0 x9)).bind fun t414 => (bulletinref12_Scan.j1 k x0 x4 x5 x6 x7 x8 x9 (bt x0 x9) (!t414))) else (bulletinref12_Scan.j1 k x0 x4 x5 x6 x7 x8 x9 (bt x0 x9) false))) else (none)) else (if x6 ≥ 2 then (some (([] : List (S109)), 9)) else (if x6 = 1 then (if x4.length < 5864062014805 then (some ((x4 ++ [(⟨1, x5⟩ : S109)]), 0)) else (none)) else (some (x4, 0))))
def bulletinref12_Scan.j1 : Nat → ByteArray → List (S109) → ByteArray → Int → Int → Bool → Int → Int → Bool → Option ((List (S109)) × Int)
 | 0, _, _, _, _, _, _, _, _, _ => none
 | k + 1, x0, x4, x5, x6, x7, x8, x9, x10, x39 => if x39 = true then (if x4.length < 5864062014805 then (bulletinref12_Scan.j2 k x0 (x4 ++ [(⟨1, x5⟩ : S109)]) (⟨#[]⟩ : ByteArray) 0 x7 x8 x9 x10) else (none)) else (bulletinref12_Scan.j2 k x0 x4 x5 x6 x7 x8 x9 x10)
def bulletinref12_Scan.j2 : Nat → ByteArray → List (S109) → ByteArray → Int → Int → Bool → Int → Int → Option ((List (S109)) × Int)
 | 0, _, _, _, _, _, _, _, _ => none
 | k + 1, x0, x4, x5, x6, x7, x8, x9, x10 => if x10 = 13 then (if (wrap64 (x9 + 2)) < (x0.size : Int) then (if 0 ≤ (wrap64 (x9 + 1)) then (if (wrap64 (x9 + 1)) < (x0.size : Int) then (if (bt x0 (wrap64 (x9 + 1))) = 10 then (if 0 ≤ (wrap64 (x9 + 2)) then (if (bt x0 (wrap64 (x9 + 2))) = 32 then (bulletinref12_Scan.j3 k x0 x4 x5 x6 x7 x8 x9 x10 true) else (bulletinref12_Scan.j3 k x0 x4 x5 x6 x7 x8 x9 x10 ((bt x0 (wrap64 (x9 + 2))) == 9))) else (none)) else (bulletinref12_Scan.j3 k x0 x4 x5 x6 x7 x8 x9 x10 false)) else (none)) else (none)) else (bulletinref12_Scan.j3 k x0 x4 x5 x6 x7 x8 x9 x10 false)) else (bulletinref12_Scan.j3 k x0 x4 x5 x6 x7 x8 x9 x10 false)
def bulletinref12_Scan.j3 : Nat → ByteArray → List (S109) → ByteArray → Int → Int → Bool → Int → Int → Bool → Option ((List (S109)) × Int)
 | 0, _, _, _, _, _, _, _, _, _ => none
 | k + 1, x0, x4, x5, x6, x7, x8, x9, x10, x74 => if x74 = true then (bulletinref12_Scan.l0 k x0 x4 x5 x6 x7 x8 (wrap64 ((wrap64 (x9 + 1)) + 1))) else (if x6 = 2 then (bulletinref12_Scan.j4 k x0 x4 x5 x6 x7 x8 x9 x10 true) else (bulletinref12_Scan.j4 k x0 x4 x5 x6 x7 x8 x9 x10 (x6 == 3)))
def bulletinref12_Scan.j4 : Nat → ByteArray → List (S109) → ByteArray → Int → Int → Bool → Int → Int → Bool → Option ((List (S109)) × Int)
 | 0, _, _, _, _, _, _, _, _, _ => none
 | k + 1, x0, x4, x5, x6, x7, x8, x9, x10, x82 => if x82 = true then (if x10 = 92 then (bulletinref12_Scan.l0 k x0 x4 x5 x6 x7 true (wrap64 (x9 + 1))) else ((bulletinref12_Text.f x10).bind fun t418 => (if t418 = true then (bulletinref12_Scan.j5 k x0 x4 x5 x6 x7 x8 x9 x10) else (some (([] : List (S109)), 3))))) else (bulletinref12_Scan.j5 k x0 x4 x5 x6 x7 x8 x9 x10)
def bulletinref12_Scan.j5 : Nat → ByteArray → List (S109) → ByteArray → Int → Int → Bool → Int → Int → Option ((List (S109)) × Int)
 | 0, _, _, _, _, _, _, _, _ => none
 | k + 1, x0, x4, x5, x6, x7, x8, x9, x10 => if x6 = 2 then (if x10 = 34 then (if x4.length < 5864062014805 then (bulletinref12_Scan.l0 k x0 (x4 ++ [(⟨2, x5⟩ : S109)]) (⟨#[]⟩ : ByteArray) 0 x7 x8 (wrap64 (x9 + 1))) else (none)) else (if 0 ≤ x9 then (if x9 ≤ (wrap64 (x9 + 1)) then (if (wrap64 (x9 + 1)) ≤ (x0.size : Int) then (if x5.size + (x0.extract (x9 : Int).toNat ((wrap64 (x9 + 1)) : Int).toNat).size ≤ 9223372036854775807 then (bulletinref12_Scan.l0 k x0 x4 (x5 ++ (x0.extract (x9 : Int).toNat ((wrap64 (x9 + 1)) : Int).toNat)) x6 x7 x8 (wrap64 (x9 + 1))) else (none)) else (none)) else (none)) else (none))) else (if x6 = 3 then (if x10 = 40 then (bulletinref12_Scan.j6 k x0 x4 x5 x6 (wrap64 (x7 + 1)) x8 x9 x10) else (bulletinref12_Scan.j6 k x0 x4 x5 x6 x7 x8 x9 x10)) else ((bulletinref12_atomic.f k x10).bind fun t422 => (if t422 = true then (if 0 ≤ x9 then (if x9 ≤ (wrap64 (x9 + 1)) then (if (wrap64 (x9 + 1)) ≤ (x0.size : Int) then (if x5.size + (x0.extract (x9 : Int).toNat ((wrap64 (x9 + 1)) : Int).toNat).size ≤ 9223372036854775807 then (bulletinref12_Scan.l0 k x0 x4 (x5 ++ (x0.extract (x9 : Int).toNat ((wrap64 (x9 + 1)) : Int).toNat)) 1 x7 x8 (wrap64 (x9 + 1))) else (none)) else (none)) else (none)) else (none)) else (if x10 = 34 then (bulletinref12_Scan.l0 k x0 x4 x5 2 x7 x8 (wrap64 (x9 + 1))) else (if x10 = 40 then (bulletinref12_Scan.l0 k x0 x4 x5 3 1 x8 (wrap64 (x9 + 1))) else ((bulletinref12_among.f k x10 (⟨#[60, 62, 58, 59, 64, 44, 46]⟩ : ByteArray)).bind fun t423 => (if t423 = true then (if 0 ≤ x9 then (if x9 ≤ (wrap64 (x9 + 1)) then (if (wrap64 (x9 + 1)) ≤ (x0.size : Int) then (if x4.length < 5864062014805 then (bulletinref12_Scan.l0 k x0 (x4 ++ [(⟨3, x0.extract (x9 : Int).toNat ((wrap64 (x9 + 1)) : Int).toNat⟩ : S109)]) x5 x6 x7 x8 (wrap64 (x9 + 1))) else (none)) else (none)) else (none)) else (none)) else (if x10 = 32 then (bulletinref12_Scan.l0 k x0 x4 x5 x6 x7 x8 (wrap64 (x9 + 1))) else (if x10 = 9 then (bulletinref12_Scan.l0 k x0 x4 x5 x6 x7 x8 (wrap64 (x9 + 1))) else (some (([] : List (S109)), 3)))))))))))
def bulletinref12_Scan.j6 : Nat → ByteArray → List (S109) → ByteArray → Int → Int → Bool → Int → Int → Option ((List (S109)) × Int)
 | 0, _, _, _, _, _, _, _, _ => none
 | k + 1, x0, x4, x5, x6, x7, x8, x9, x10 => if x10 = 41 then (bulletinref12_Scan.j7 k x0 x4 x5 x6 (wrap64 (x7 - 1)) x8 x9) else (bulletinref12_Scan.j7 k x0 x4 x5 x6 x7 x8 x9)
def bulletinref12_Scan.j7 : Nat → ByteArray → List (S109) → ByteArray → Int → Int → Bool → Int → Option ((List (S109)) × Int)
 | 0, _, _, _, _, _, _, _ => none
 | k + 1, x0, x4, x5, x6, x7, x8, x9 => if x7 > 16 then (some (([] : List (S109)), 1)) else (if x7 = 0 then (bulletinref12_Scan.l0 k x0 x4 x5 0 x7 x8 (wrap64 (x9 + 1))) else (bulletinref12_Scan.l0 k x0 x4 x5 x6 x7 x8 (wrap64 (x9 + 1))))
end
def bulletinref12_Scan.f (k : Nat) (a0 : ByteArray) : Option ((List (S109)) × Int) := bulletinref12_Scan.l0 k a0 ([] : List (S109)) (⟨#[]⟩ : ByteArray) 0 0 false 0
set_option maxHeartbeats 8000000 in
set_option maxRecDepth 100000 in
theorem bulletinref12_Scan.calls (k : Nat) (a0 : ByteArray) (r1 : List (S109)) (r2 : Int) (w : World) (h : bulletinref12_Scan.f k a0 = some (r1, r2)) :
  Calls Tryd.prog 67 #[.string a0] w fun e w' => ∃ v0_ : Value, e = .returned (.tuple #[v0_, .int .i64 r2]) ∧ Kd.R k109 109 w' w.heap.size (fun _ => True) v0_ r1 ∧ Below w.heap.size w w' := by
 have hu109 := Tryd.underlying109; have HB := Aside0.mk (Below.refl w.heap.size w); have H : (bulletinref12_Scan.l0 k a0 ([] : List (S109)) (⟨#[]⟩ : ByteArray) 0 0 false 0) = some (r1, r2) := h; clear h; have H' := Aside0.mk H; clear H
 go_enter Tryd.func67, Tryd.ntmps67
 go_wp2
 go_loopg [4, 5, 6, 7, 8, 9] k (fun kq v4 v5 v6 v7 v8 v9 w' => ∃ (x4_1 : List (S109)) (x5_1 : ByteArray) (x6_1 : Int) (x7_1 : Int) (x8_1 : Bool) (x9_1 : Int), v5 = .string x5_1 ∧ v6 = .int .i64 x6_1 ∧ v7 = .int .i64 x7_1 ∧ v8 = .bool x8_1 ∧ v9 = .int .i64 x9_1 ∧ Aside0 (bulletinref12_Scan.l0 kq a0 x4_1 x5_1 x6_1 x7_1 x8_1 x9_1 = some (r1, r2)) ∧ Aside0 (kq ≤ k) ∧ Aside0 (Kd.R k109 109 w' w.heap.size (fun _ => True) v4 x4_1) ∧ Aside0 (Below w.heap.size w w'))
 case atStart => exact ⟨(([] : List (S109))), ((⟨#[]⟩ : ByteArray)), (0), (0), (false), (0), cl, cl, cl, cl, cl, H', ⟨Nat.le_refl _⟩, ⟨by first | exact Kd.R_nil _ _ _ _ _ | exact Kd.N_nil _ _ _ _ _ | exact Kd.V_nil _ _ _ _ _ | exact Kd.Q_nil _ _ _ _ _ | exact Kd.S_nil _ _ _ _ _⟩, ⟨bw⟩⟩
 case round =>
  clear H'; obtain ⟨x4_1, x5_1, x6_1, x7_1, x8_1, x9_1, rfl, rfl, rfl, rfl, rfl, HA, HK1, HO_4, HB⟩ := hrel; cases gk with
  | zero => exact absurd HA.out (by simp [bulletinref12_Scan.l0])
  | succ k1 =>
   have H := HA.out; clear HA; simp only [bulletinref12_Scan.l0] at H
   by_cases c2 : x9_1 < (a0.size : Int)
   ·rw [if_pos c2] at H; have c2b0 : decide (x9_1 < (a0.size : Int)) = true := decide_eq_true c2; clear c2
    by_cases c3 : 0 ≤ x9_1
    ·rw [if_pos c3] at H; have c3b0 : decide (0 ≤ x9_1) = true := decide_eq_true c3; clear c3
     by_cases c5 : x8_1 = true
     ·subst c5; have H1 : ((bulletinref12_Text.f (bt a0 x9_1)).bind fun t413 => (if t413 = true then (if x6_1 = 2 then (if x9_1 ≤ (wrap64 (x9_1 + 1)) then (if (wrap64 (x9_1 + 1)) ≤ (a0.size : Int) then (if x5_1.size + (a0.extract (x9_1 : Int).toNat ((wrap64 (x9_1 + 1)) : Int).toNat).size ≤ 9223372036854775807 then (bulletinref12_Scan.l0 k1 a0 x4_1 (x5_1 ++ (a0.extract (x9_1 : Int).toNat ((wrap64 (x9_1 + 1)) : Int).toNat)) x6_1 x7_1 false (wrap64 (x9_1 + 1))) else (none)) else (none)) else (none)) else (bulletinref12_Scan.l0 k1 a0 x4_1 x5_1 x6_1 x7_1 false (wrap64 (x9_1 + 1)))) else (some (([] : List (S109)), 3)))) = some (r1, r2) := by rw [if_pos rfl] at H; exact H
      clear H; have H := H1; clear H1; replace H := Option.bind_eq_some_iff.mp H; obtain ⟨t413, A60, H⟩ := H; replace H : (if t413 = true then (if x6_1 = 2 then (if x9_1 ≤ (wrap64 (x9_1 + 1)) then (if (wrap64 (x9_1 + 1)) ≤ (a0.size : Int) then (if x5_1.size + (a0.extract (x9_1 : Int).toNat ((wrap64 (x9_1 + 1)) : Int).toNat).size ≤ 9223372036854775807 then (bulletinref12_Scan.l0 k1 a0 x4_1 (x5_1 ++ (a0.extract (x9_1 : Int).toNat ((wrap64 (x9_1 + 1)) : Int).toNat)) x6_1 x7_1 false (wrap64 (x9_1 + 1))) else (none)) else (none)) else (none)) else (bulletinref12_Scan.l0 k1 a0 x4_1 x5_1 x6_1 x7_1 false (wrap64 (x9_1 + 1)))) else (some (([] : List (S109)), 3))) = some (r1, r2) := H; have A6 := Aside0.mk A60; clear A60
      by_cases c7 : t413 = true
      ·subst c7; have H1 : (if x6_1 = 2 then (if x9_1 ≤ (wrap64 (x9_1 + 1)) then (if (wrap64 (x9_1 + 1)) ≤ (a0.size : Int) then (if x5_1.size + (a0.extract (x9_1 : Int).toNat ((wrap64 (x9_1 + 1)) : Int).toNat).size ≤ 9223372036854775807 then (bulletinref12_Scan.l0 k1 a0 x4_1 (x5_1 ++ (a0.extract (x9_1 : Int).toNat ((wrap64 (x9_1 + 1)) : Int).toNat)) x6_1 x7_1 false (wrap64 (x9_1 + 1))) else (none)) else (none)) else (none)) else (bulletinref12_Scan.l0 k1 a0 x4_1 x5_1 x6_1 x7_1 false (wrap64 (x9_1 + 1)))) = some (r1, r2) := by rw [if_pos rfl] at H; exact H
       clear H; have H := H1; clear H1
       by_cases c8 : x6_1 = 2
       ·rw [if_pos c8] at H; have c8b0 : (x6_1 == 2) = true := beq_iff_eq.mpr c8; have c8b1 : (x6_1 != 2) = false := bne_eq_false_iff_eq.mpr c8; clear c8; have c9b0 := eq_true (od : 0 ≤ x9_1)
        by_cases c10 : x9_1 ≤ (wrap64 (x9_1 + 1))
        ·rw [if_pos c10] at H; have c10b0 := eq_true c10; have c10b1 : decide (x9_1 ≤ (wrap64 (x9_1 + 1))) = true := decide_eq_true c10
         by_cases c11 : (wrap64 (x9_1 + 1)) ≤ (a0.size : Int)
         ·rw [if_pos c11] at H; have c11b0 := eq_true c11; have c11b1 : decide ((wrap64 (x9_1 + 1)) ≤ (a0.size : Int)) = true := decide_eq_true c11
          by_cases c12 : x5_1.size + (a0.extract (x9_1 : Int).toNat ((wrap64 (x9_1 + 1)) : Int).toNat).size ≤ 9223372036854775807
          ·rw [if_pos c12] at H; have c12b0 := eq_true c12; have c12b1 : decide (x5_1.size + (a0.extract (x9_1 : Int).toNat ((wrap64 (x9_1 + 1)) : Int).toNat).size ≤ 9223372036854775807) = true := decide_eq_true c12
           try have c12b2 : (9223372036854775807 < x5_1.size + (a0.extract (x9_1 : Int).toNat ((wrap64 (x9_1 + 1)) : Int).toNat).size) = False := eq_false (Nat.not_lt.2 c12)
           try (have c12b3 := c12; simp only [ByteArray.size_append, size_lit, ByteArray.size_extract, List.size_toArray, List.length_cons, List.length_nil, Nat.zero_add, Nat.reduceAdd] at c12b3; have c12b4 := eq_false (Nat.not_lt.2 c12b3))
           have H' := Aside0.mk H; clear H; have p4 : 0 ≤ (x9_1 : Int) := od; have q4 : x9_1 < (a0.size : Int) := od; have hx4 := bt_at a0 x9_1; replace p4 := eq_true p4; replace q4 := eq_true q4
           as_aux_lemma =>
            go_wp2_with (first | ((with_reducible refine gate_callee (f := 104) rfl ?_); refine goesL_ (some 22) rfl rfl Tryd.func104 (by kernel_rfl) rfl #[.int .u8 (bt a0 x9_1)] rfl am ?_; (with_reducible refine (bulletinref12_Text.calls (bt a0 x9_1) true _ A6.out).mono ?_); rintro e w' ⟨rfl, ⟨nd, rfl⟩⟩; refine ⟨_, rfl, ?_⟩))
            go_roundg k1
            case measure => have := HK1.out; omega
            case rel => exact ⟨(x4_1), (x5_1 ++ (a0.extract (x9_1 : Int).toNat ((wrap64 (x9_1 + 1)) : Int).toNat)), (x6_1), (x7_1), (false), (wrap64 (x9_1 + 1)), cl, cl, cl, cl, cl, H', ⟨by have := HK1.out; omega⟩, ⟨by (with_reducible repeat (first | apply Kd.R_alloc | apply Kd.R_drewN | apply Kd.R_drew)); exact HO_4.out⟩, ⟨bw⟩⟩
          ·rw [if_neg c12] at H; exact absurd H (by simp)
         ·rw [if_neg c11] at H; exact absurd H (by simp)
        ·rw [if_neg c10] at H; exact absurd H (by simp)
       ·rw [if_neg c8] at H; have c8b0 : (x6_1 == 2) = false := beq_eq_false_iff_ne.mpr c8; have c8b1 : (x6_1 != 2) = true := bne_iff_ne.mpr c8; have H' := Aside0.mk H; clear H; have p4 : 0 ≤ (x9_1 : Int) := od; have q4 : x9_1 < (a0.size : Int) := od; have hx4 := bt_at a0 x9_1; replace p4 := eq_true p4; replace q4 := eq_true q4
        as_aux_lemma =>
         go_wp2_with (first | ((with_reducible refine gate_callee (f := 104) rfl ?_); refine goesL_ (some 22) rfl rfl Tryd.func104 (by kernel_rfl) rfl #[.int .u8 (bt a0 x9_1)] rfl am ?_; (with_reducible refine (bulletinref12_Text.calls (bt a0 x9_1) true _ A6.out).mono ?_); rintro e w' ⟨rfl, ⟨nd, rfl⟩⟩; refine ⟨_, rfl, ?_⟩))
         go_roundg k1
         case measure => have := HK1.out; omega
         case rel => exact ⟨(x4_1), (x5_1), (x6_1), (x7_1), (false), (wrap64 (x9_1 + 1)), cl, cl, cl, cl, cl, H', ⟨by have := HK1.out; omega⟩, ⟨by (with_reducible repeat (first | apply Kd.R_alloc | apply Kd.R_drewN | apply Kd.R_drew)); exact HO_4.out⟩, ⟨bw⟩⟩
      ·replace c7 := Bool.eq_false_iff.mpr c7; subst c7; have H1 : (some (([] : List (S109)), 3)) = some (r1, r2) := by rw [if_neg (show ¬ (false = true) by decide)] at H; exact H
       clear H; have H := H1; clear H1; simp only [Option.some.injEq, Prod.mk.injEq] at H; obtain ⟨rfl, rfl⟩ := H; have p4 : 0 ≤ (x9_1 : Int) := od; have q4 : x9_1 < (a0.size : Int) := od; have hx4 := bt_at a0 x9_1; replace p4 := eq_true p4; replace q4 := eq_true q4
       as_aux_lemma =>
        go_wp2_with (first | ((with_reducible refine gate_callee (f := 104) rfl ?_); refine goesL_ (some 22) rfl rfl Tryd.func104 (by kernel_rfl) rfl #[.int .u8 (bt a0 x9_1)] rfl am ?_; (with_reducible refine (bulletinref12_Text.calls (bt a0 x9_1) false _ A6.out).mono ?_); rintro e w' ⟨rfl, ⟨nd, rfl⟩⟩; refine ⟨_, rfl, ?_⟩))
        go_ret2
        exact ⟨_, ew, by first | exact Kd.R_nil _ _ _ _ _ | exact Kd.N_nil _ _ _ _ _ | exact Kd.V_nil _ _ _ _ _ | exact Kd.Q_nil _ _ _ _ _ | exact Kd.S_nil _ _ _ _ _, bw⟩
     ·replace c5 := Bool.eq_false_iff.mpr c5; subst c5; have H1 : (if x6_1 = 1 then ((bulletinref12_atomic.f k1 (bt a0 x9_1)).bind fun t414 => (bulletinref12_Scan.j1 k1 a0 x4_1 x5_1 x6_1 x7_1 false x9_1 (bt a0 x9_1) (!t414))) else (bulletinref12_Scan.j1 k1 a0 x4_1 x5_1 x6_1 x7_1 false x9_1 (bt a0 x9_1) false)) = some (r1, r2) := by rw [if_neg (show ¬ (false = true) by decide)] at H; exact H
      clear H; have H := H1; clear H1; have HC13 := Aside0.mk H; clear H; have p4 : 0 ≤ (x9_1 : Int) := od; have q4 : x9_1 < (a0.size : Int) := od; have hx4 := bt_at a0 x9_1; replace p4 := eq_true p4; replace q4 := eq_true q4
      go_upto_region 16 with (fail)
      go_cut [39] (fun v39 wc => ∃ (kq : Nat) (x39_12 : Bool), v39 = .bool x39_12 ∧ Aside0 (bulletinref12_Scan.j1 kq a0 x4_1 x5_1 x6_1 x7_1 false x9_1 (bt a0 x9_1) x39_12 = some (r1, r2)) ∧ Aside0 (kq ≤ k1) ∧ Aside0 (Kd.R k109 109 wc w.heap.size (fun _ => True) u4 x4_1) ∧ Aside0 (Below w.heap.size w wc))
      case first =>
       have H := HC13.out; clear HC13
       by_cases c14 : x6_1 = 1
       ·rw [if_pos c14] at H; have c14b0 : (x6_1 == 1) = true := beq_iff_eq.mpr c14; have c14b1 : (x6_1 != 1) = false := bne_eq_false_iff_eq.mpr c14; clear c14
        (first | rw [c14b0] | (simp only [i64_w, i32_w]; rw [c14b0]) | skip)
        replace H := Option.bind_eq_some_iff.mp H; obtain ⟨t414, A150, H⟩ := H; replace H : (bulletinref12_Scan.j1 k1 a0 x4_1 x5_1 x6_1 x7_1 false x9_1 (bt a0 x9_1) (!t414)) = some (r1, r2) := H; have A15 := Aside0.mk A150; clear A150; have H' := Aside0.mk H; clear H
        as_aux_lemma =>
         go_wp2_with (first | (go_at_call 105; (with_reducible refine (bulletinref12_atomic.calls k1 (bt a0 x9_1) t414 _ A15.out).mono ?_); rintro e w' ⟨rfl, ⟨nd, rfl⟩⟩))
         go_meet
         case rel => exact ⟨_, (!t414), cl, H', ⟨by have := HK1.out; first | omega | exact Nat.le_refl _⟩, ⟨by (with_reducible repeat (first | apply Kd.R_alloc | apply Kd.R_drewN | apply Kd.R_drew)); exact HO_4.out⟩, ⟨bw⟩⟩
       ·rw [if_neg c14] at H; have c14b0 : (x6_1 == 1) = false := beq_eq_false_iff_ne.mpr c14; have c14b1 : (x6_1 != 1) = true := bne_iff_ne.mpr c14
        (first | rw [c14b0] | (simp only [i64_w, i32_w]; rw [c14b0]) | skip)
        have H' := Aside0.mk H; clear H
        as_aux_lemma =>
         go_wp2
         go_meet
         case rel => exact ⟨_, (false), cl, H', ⟨by have := HK1.out; first | omega | exact Nat.le_refl _⟩, ⟨by (with_reducible repeat (first | apply Kd.R_alloc | apply Kd.R_drewN | apply Kd.R_drew)); exact HO_4.out⟩, ⟨bw⟩⟩
      case rest =>
       clear HC13
       try clear c1
       try clear c2
       try clear c2b0
       try clear p2
       try clear c3
       try clear c3b0
       try clear p4
       try clear q4
       try clear hx4
       try clear c5
       try clear c6
       try clear p6
       try clear c7
       try clear c8
       try clear c8b0
       try clear c8b1
       try clear c9
       try clear c9b0
       try clear c10
       try clear c10b0
       try clear c10b1
       try clear c11
       try clear c11b0
       try clear c11b1
       try clear c12
       try clear c12b0
       try clear c12b1
       try clear c12b2
       try clear c14
       try clear c14b0
       try clear c14b1
       try clear p4
       try clear q4
       obtain ⟨kq, x39_12, rfl, HA, HJ12, HO_4, HB⟩ := hcut; cases kq with
       | zero => exact absurd HA.out (by simp [bulletinref12_Scan.j1])
       | succ kj12 =>
        have H := HA.out; clear HA; simp only [bulletinref12_Scan.j1] at H; have HC16 := Aside0.mk H; clear H
        go_upto_if 39 with (fail)
        go_cut [4, 5, 6] (fun v4 v5 v6 wc => ∃ (kq : Nat) (x4_15 : List (S109)) (x5_15 : ByteArray) (x6_15 : Int), v5 = .string x5_15 ∧ v6 = .int .i64 x6_15 ∧ Aside0 (bulletinref12_Scan.j2 kq a0 x4_15 x5_15 x6_15 x7_1 false x9_1 (bt a0 x9_1) = some (r1, r2)) ∧ Aside0 (kq ≤ kj12) ∧ Aside0 (Kd.R k109 109 wc w.heap.size (fun _ => True) v4 x4_15) ∧ Aside0 (Below w.heap.size w wc))
        case first =>
         have H := HC16.out; clear HC16
         by_cases c17 : x39_12 = true
         ·subst c17; have H1 : (if x4_1.length < 5864062014805 then (bulletinref12_Scan.j2 kj12 a0 (x4_1 ++ [(⟨1, x5_1⟩ : S109)]) (⟨#[]⟩ : ByteArray) 0 x7_1 false x9_1 (bt a0 x9_1)) else (none)) = some (r1, r2) := by rw [if_pos rfl] at H; exact H
          clear H; have H := H1; clear H1
          by_cases c18 : x4_1.length < 5864062014805
          ·rw [if_pos c18] at H; have LMc18 := Aside0.mk c18; clear c18; obtain ⟨y415, hy415⟩ : ∃ y_ : List (S109), y_ = (x4_1 ++ [(⟨1, x5_1⟩ : S109)]) := ⟨_, rfl⟩
           replace H : (bulletinref12_Scan.j2 kj12 a0 y415 (⟨#[]⟩ : ByteArray) 0 x7_1 false x9_1 (bt a0 x9_1)) = some (r1, r2) := by first | (rw [hy415]; with_reducible exact H) | (have H2_ := (Option.bind_some _ _).symm.trans H; rw [hy415]; with_reducible exact H2_) | (have H2_ := (Option.bind_some _ _).symm.trans H; with_reducible exact H2_) | with_reducible exact H | (rw [hy415]; exact H) | exact H
           have Ny415 := Aside0.mk hy415; clear hy415; have H' := Aside0.mk H; clear H
           as_aux_lemma =>
            go_wp2_with (first | ((with_reducible refine gate_builtin (b := .append) (xs := #[.tmp 40, .tmp 43]) rfl ?_); (try (refine gate_guard (by rfl) ?_; dsimp only)); at_builtin; refine Kd.R_append k109 (w0 := w) w.heap.size rfl (.tmp 40) (.tmp 43) 105 109 (.agg #[(.int .i64 0), (.string ⟨#[]⟩)]) 24 rfl Tryd.underlying105 info109 rfl (by decide) (by omega) u4 x4_1 (⟨1, x5_1⟩ : S109) [.int .i64 1, .string x5_1] (fun _ => True) (fun _ => False) rfl rfl ?aP (fun _ hk => hk.elim) ?aF ?aO ?aB ?aS ?aL ?_; (case aP => exact k109_mkM _ _ _ (⟨1, x5_1⟩ : S109)); (case aB => exact bw); (case aF => exact (fun _ _ => trivial)); (case aO => exact (ra HO_4.out)); (case aS => exact (below_size bw)); (case aL => have := LMc18.out; omega); intro v416 w19 ho hb hg hat; rw [← Ny415.out] at ho; have n0_ := Aside0.mk (hb); have n1_ := Aside0.mk (ho); clear HB; clear HO_4; have HB := n0_; have HO417 := n1_; clear n0_ n1_; clear ho hb hg hat))
            go_meet
            case rel => exact ⟨_, (y415), ((⟨#[]⟩ : ByteArray)), (0), cl, cl, H', ⟨by have := HK1.out; have := HJ12.out; first | omega | exact Nat.le_refl _⟩, ⟨by (with_reducible repeat (first | apply Kd.R_alloc | apply Kd.R_drewN | apply Kd.R_drew)); exact HO417.out⟩, ⟨bw⟩⟩
          ·rw [if_neg c18] at H; exact absurd H (by simp)
         ·replace c17 := Bool.eq_false_iff.mpr c17; subst c17; have H1 : (bulletinref12_Scan.j2 kj12 a0 x4_1 x5_1 x6_1 x7_1 false x9_1 (bt a0 x9_1)) = some (r1, r2) := by rw [if_neg (show ¬ (false = true) by decide)] at H; exact H
          clear H; have H := H1; clear H1; have H' := Aside0.mk H; clear H
          as_aux_lemma =>
           go_wp2
           go_meet
           case rel => exact ⟨_, (x4_1), (x5_1), (x6_1), cl, cl, H', ⟨by have := HK1.out; have := HJ12.out; first | omega | exact Nat.le_refl _⟩, ⟨by (with_reducible repeat (first | apply Kd.R_alloc | apply Kd.R_drewN | apply Kd.R_drew)); exact HO_4.out⟩, ⟨bw⟩⟩
        case rest =>
         clear HC16
         try clear c1
         try clear c2
         try clear c2b0
         try clear p2
         try clear c3
         try clear c3b0
         try clear p4
         try clear q4
         try clear hx4
         try clear c5
         try clear c6
         try clear p6
         try clear c7
         try clear c8
         try clear c8b0
         try clear c8b1
         try clear c9
         try clear c9b0
         try clear c10
         try clear c10b0
         try clear c10b1
         try clear c11
         try clear c11b0
         try clear c11b1
         try clear c12
         try clear c12b0
         try clear c12b1
         try clear c12b2
         try clear c14
         try clear c14b0
         try clear c14b1
         try clear c17
         try clear c18
         try clear p2
         try clear p4
         try clear p6
         try clear q4
         obtain ⟨kq, x4_15, x5_15, x6_15, rfl, rfl, HA, HJ15, HO_4, HB⟩ := hcut; cases kq with
         | zero => exact absurd HA.out (by simp [bulletinref12_Scan.j2])
         | succ kj15 =>
          have H := HA.out; clear HA; simp only [bulletinref12_Scan.j2] at H; have HC20 := Aside0.mk H; clear H
          go_upto_region 20 with (fail)
          go_cut [74] (fun v74 wc => ∃ (kq : Nat) (x74_19 : Bool), v74 = .bool x74_19 ∧ Aside0 (bulletinref12_Scan.j3 kq a0 x4_15 x5_15 x6_15 x7_1 false x9_1 (bt a0 x9_1) x74_19 = some (r1, r2)) ∧ Aside0 (kq ≤ kj15) ∧ Aside0 (Kd.R k109 109 wc w.heap.size (fun _ => True) u4 x4_15) ∧ Aside0 (Below w.heap.size w wc))
          case first =>
           have H := HC20.out; clear HC20
           by_cases c21 : (bt a0 x9_1) = 13
           ·rw [if_pos c21] at H; have c21b0 : ((bt a0 x9_1) == 13) = true := beq_iff_eq.mpr c21; have c21b1 : ((bt a0 x9_1) != 13) = false := bne_eq_false_iff_eq.mpr c21; clear c21
            (first | rw [c21b0] | (simp only [i64_w, i32_w]; rw [c21b0]) | skip)
            by_cases c22 : (wrap64 (x9_1 + 2)) < (a0.size : Int)
            ·rw [if_pos c22] at H; have c22b0 : decide ((wrap64 (x9_1 + 2)) < (a0.size : Int)) = true := decide_eq_true c22; clear c22; obtain ⟨ji23, hji23⟩ : ∃ j_ : Int, (wrap64 (x9_1 + 1)) = j_ := ⟨_, rfl⟩
             replace H : (if 0 ≤ (ji23) then (if (ji23) < (a0.size : Int) then (if (bt a0 (ji23)) = 10 then (if 0 ≤ (wrap64 (x9_1 + 2)) then (if (bt a0 (wrap64 (x9_1 + 2))) = 32 then (bulletinref12_Scan.j3 kj15 a0 x4_15 x5_15 x6_15 x7_1 false x9_1 (bt a0 x9_1) true) else (bulletinref12_Scan.j3 kj15 a0 x4_15 x5_15 x6_15 x7_1 false x9_1 (bt a0 x9_1) ((bt a0 (wrap64 (x9_1 + 2))) == 9))) else (none)) else (bulletinref12_Scan.j3 kj15 a0 x4_15 x5_15 x6_15 x7_1 false x9_1 (bt a0 x9_1) false)) else (none)) else (none)) = some (r1, r2) := by first | (rw [hji23] at H; exact H) | (simp only [hji23] at H ⊢; exact H)
             have hji23w : (IntKind.i64.wrap (x9_1 + 1)) = ji23 := (i64_w _).trans hji23
             by_cases c24 : 0 ≤ (ji23)
             ·rw [if_pos c24] at H; have c24b0 : decide (0 ≤ (ji23)) = true := decide_eq_true c24; clear c24
              by_cases c25 : (ji23) < (a0.size : Int)
              ·rw [if_pos c25] at H; have c25b0 : decide ((ji23) < (a0.size : Int)) = true := decide_eq_true c25; clear c25
               by_cases c27 : (bt a0 (ji23)) = 10
               ·rw [if_pos c27] at H; have c27b0 : ((bt a0 (ji23)) == 10) = true := beq_iff_eq.mpr c27; have c27b1 : ((bt a0 (ji23)) != 10) = false := bne_eq_false_iff_eq.mpr c27; clear c27; obtain ⟨ji28, hji28⟩ : ∃ j_ : Int, (wrap64 (x9_1 + 2)) = j_ := ⟨_, rfl⟩
                replace H : (if 0 ≤ (ji28) then (if (bt a0 (ji28)) = 32 then (bulletinref12_Scan.j3 kj15 a0 x4_15 x5_15 x6_15 x7_1 false x9_1 (bt a0 x9_1) true) else (bulletinref12_Scan.j3 kj15 a0 x4_15 x5_15 x6_15 x7_1 false x9_1 (bt a0 x9_1) ((bt a0 (ji28)) == 9))) else (none)) = some (r1, r2) := by first | (rw [hji28] at H; exact H) | (simp only [hji28] at H ⊢; exact H)
                (try rw [hji28] at c22b0)
                have hji28w : (IntKind.i64.wrap (x9_1 + 2)) = ji28 := (i64_w _).trans hji28
                by_cases c29 : 0 ≤ (ji28)
                ·rw [if_pos c29] at H; have c29b0 : decide (0 ≤ (ji28)) = true := decide_eq_true c29; clear c29
                 by_cases c31 : (bt a0 (ji28)) = 32
                 ·rw [if_pos c31] at H; have c31b0 : ((bt a0 (ji28)) == 32) = true := beq_iff_eq.mpr c31; have c31b1 : ((bt a0 (ji28)) != 32) = false := bne_eq_false_iff_eq.mpr c31; clear c31; have H' := Aside0.mk H; clear H; have p26 : 0 ≤ ((ji23) : Int) := od; have q26 : (ji23) < (a0.size : Int) := od; have hx26 := bt_at a0 (ji23); replace p26 := eq_true p26; replace q26 := eq_true q26; have p30 : 0 ≤ ((ji28) : Int) := od; have q30 : (ji28) < (a0.size : Int) := od; have hx30 := bt_at a0 (ji28); replace p30 := eq_true p30; replace q30 := eq_true q30
                  as_aux_lemma =>
                   go_wp2
                   go_meet
                   case rel => exact ⟨_, (true), cl, H', ⟨by have := HK1.out; have := HJ12.out; have := HJ15.out; first | omega | exact Nat.le_refl _⟩, ⟨by (with_reducible repeat (first | apply Kd.R_alloc | apply Kd.R_drewN | apply Kd.R_drew)); exact HO_4.out⟩, ⟨bw⟩⟩
                 ·rw [if_neg c31] at H; have c31b0 : ((bt a0 (ji28)) == 32) = false := beq_eq_false_iff_ne.mpr c31; have c31b1 : ((bt a0 (ji28)) != 32) = true := bne_iff_ne.mpr c31; have H' := Aside0.mk H; clear H; have p26 : 0 ≤ ((ji23) : Int) := od; have q26 : (ji23) < (a0.size : Int) := od; have hx26 := bt_at a0 (ji23); replace p26 := eq_true p26; replace q26 := eq_true q26; have p30 : 0 ≤ ((ji28) : Int) := od; have q30 : (ji28) < (a0.size : Int) := od; have hx30 := bt_at a0 (ji28); replace p30 := eq_true p30; replace q30 := eq_true q30; have p32 : 0 ≤ ((ji28) : Int) := od; have q32 : (ji28) < (a0.size : Int) := od; have hx32 := bt_at a0 (ji28); replace p32 := eq_true p32; replace q32 := eq_true q32
                  as_aux_lemma =>
                   go_wp2
                   go_meet
                   case rel => exact ⟨_, (((bt a0 (ji28)) == 9)), (by first | rfl | (simp; done) | (simp only [← hji28] <;> (first | rfl | simp)) | (simp [*]; done) | (simp [nil_ne]; done)), H', ⟨by have := HK1.out; have := HJ12.out; have := HJ15.out; first | omega | exact Nat.le_refl _⟩, ⟨by (with_reducible repeat (first | apply Kd.R_alloc | apply Kd.R_drewN | apply Kd.R_drew)); exact HO_4.out⟩, ⟨bw⟩⟩
                ·rw [if_neg c29] at H; exact absurd H (by simp)
               ·rw [if_neg c27] at H; have c27b0 : ((bt a0 (ji23)) == 10) = false := beq_eq_false_iff_ne.mpr c27; have c27b1 : ((bt a0 (ji23)) != 10) = true := bne_iff_ne.mpr c27; have H' := Aside0.mk H; clear H; have p26 : 0 ≤ ((ji23) : Int) := od; have q26 : (ji23) < (a0.size : Int) := od; have hx26 := bt_at a0 (ji23); replace p26 := eq_true p26; replace q26 := eq_true q26
                as_aux_lemma =>
                 go_wp2
                 go_meet
                 case rel => exact ⟨_, (false), cl, H', ⟨by have := HK1.out; have := HJ12.out; have := HJ15.out; first | omega | exact Nat.le_refl _⟩, ⟨by (with_reducible repeat (first | apply Kd.R_alloc | apply Kd.R_drewN | apply Kd.R_drew)); exact HO_4.out⟩, ⟨bw⟩⟩
              ·rw [if_neg c25] at H; exact absurd H (by simp)
             ·rw [if_neg c24] at H; exact absurd H (by simp)
            ·rw [if_neg c22] at H; have c22b0 : decide ((wrap64 (x9_1 + 2)) < (a0.size : Int)) = false := decide_eq_false c22; clear c22; have H' := Aside0.mk H; clear H
             as_aux_lemma =>
              go_wp2
              go_meet
              case rel => exact ⟨_, (false), cl, H', ⟨by have := HK1.out; have := HJ12.out; have := HJ15.out; first | omega | exact Nat.le_refl _⟩, ⟨by (with_reducible repeat (first | apply Kd.R_alloc | apply Kd.R_drewN | apply Kd.R_drew)); exact HO_4.out⟩, ⟨bw⟩⟩
           ·rw [if_neg c21] at H; have c21b0 : ((bt a0 x9_1) == 13) = false := beq_eq_false_iff_ne.mpr c21; have c21b1 : ((bt a0 x9_1) != 13) = true := bne_iff_ne.mpr c21
            (first | rw [c21b0] | (simp only [i64_w, i32_w]; rw [c21b0]) | skip)
            have H' := Aside0.mk H; clear H
            as_aux_lemma =>
             go_wp2
             go_meet
             case rel => exact ⟨_, (false), cl, H', ⟨by have := HK1.out; have := HJ12.out; have := HJ15.out; first | omega | exact Nat.le_refl _⟩, ⟨by (with_reducible repeat (first | apply Kd.R_alloc | apply Kd.R_drewN | apply Kd.R_drew)); exact HO_4.out⟩, ⟨bw⟩⟩
          case rest =>
           clear HC20
           try clear c1
           try clear c2
           try clear c2b0
           try clear p2
           try clear q2
           try clear hx2
           try clear c3
           try clear c3b0
           try clear p3
           try clear q3
           try clear hx3
           try clear p4
           try clear q4
           try clear hx4
           try clear c5
           try clear c6
           try clear p6
           try clear c7
           try clear c8
           try clear c8b0
           try clear c8b1
           try clear c9
           try clear c9b0
           try clear c10
           try clear c10b0
           try clear c10b1
           try clear c11
           try clear c11b0
           try clear c11b1
           try clear c12
           try clear c12b0
           try clear c12b1
           try clear c12b2
           try clear c14
           try clear c14b0
           try clear c14b1
           try clear c17
           try clear c18
           try clear c21
           try clear c21b0
           try clear c21b1
           try clear c22
           try clear c22b0
           try clear c24
           try clear c24b0
           try clear c25
           try clear c25b0
           try clear p26
           try clear q26
           try clear hx26
           try clear c27
           try clear c27b0
           try clear c27b1
           try clear c29
           try clear c29b0
           try clear p30
           try clear q30
           try clear hx30
           try clear c31
           try clear c31b0
           try clear c31b1
           try clear p32
           try clear q32
           try clear hx32
           try clear p2
           try clear p26
           try clear p30
           try clear p32
           try clear p4
           try clear p6
           try clear q26
           try clear q30
           try clear q32
           try clear q4
           obtain ⟨kq, x74_19, rfl, HA, HJ19, HO_4, HB⟩ := hcut; cases kq with
           | zero => exact absurd HA.out (by simp [bulletinref12_Scan.j3])
           | succ kj19 =>
            have H := HA.out; clear HA; simp only [bulletinref12_Scan.j3] at H
            by_cases c33 : x74_19 = true
            ·subst c33; have H1 : (bulletinref12_Scan.l0 kj19 a0 x4_15 x5_15 x6_15 x7_1 false (wrap64 ((wrap64 (x9_1 + 1)) + 1))) = some (r1, r2) := by rw [if_pos rfl] at H; exact H
             clear H; have H := H1; clear H1; have H' := Aside0.mk H; clear H
             as_aux_lemma =>
              go_wp2
              go_roundg kj19
              case measure => have := HK1.out; have := HJ12.out; have := HJ15.out; have := HJ19.out; omega
              case rel => exact ⟨(x4_15), (x5_15), (x6_15), (x7_1), (false), (wrap64 ((wrap64 (x9_1 + 1)) + 1)), cl, cl, cl, cl, cl, H', ⟨by have := HK1.out; have := HJ12.out; have := HJ15.out; have := HJ19.out; omega⟩, ⟨by (with_reducible repeat (first | apply Kd.R_alloc | apply Kd.R_drewN | apply Kd.R_drew)); exact HO_4.out⟩, ⟨bw⟩⟩
            ·replace c33 := Bool.eq_false_iff.mpr c33; subst c33; have H1 : (if x6_15 = 2 then (bulletinref12_Scan.j4 kj19 a0 x4_15 x5_15 x6_15 x7_1 false x9_1 (bt a0 x9_1) true) else (bulletinref12_Scan.j4 kj19 a0 x4_15 x5_15 x6_15 x7_1 false x9_1 (bt a0 x9_1) (x6_15 == 3))) = some (r1, r2) := by rw [if_neg (show ¬ (false = true) by decide)] at H; exact H
             clear H; have H := H1; clear H1; have HC34 := Aside0.mk H; clear H
             go_upto_region 22 with (fail)
             go_cut [82] (fun v82 wc => ∃ (kq : Nat) (x82_33 : Bool), v82 = .bool x82_33 ∧ Aside0 (bulletinref12_Scan.j4 kq a0 x4_15 x5_15 x6_15 x7_1 false x9_1 (bt a0 x9_1) x82_33 = some (r1, r2)) ∧ Aside0 (kq ≤ kj19) ∧ Aside0 (Kd.R k109 109 wc w.heap.size (fun _ => True) u4 x4_15) ∧ Aside0 (Below w.heap.size w wc))
             case first =>
              have H := HC34.out; clear HC34
              by_cases c35 : x6_15 = 2
              ·rw [if_pos c35] at H; have c35b0 : (x6_15 == 2) = true := beq_iff_eq.mpr c35; have c35b1 : (x6_15 != 2) = false := bne_eq_false_iff_eq.mpr c35; clear c35
               (first | rw [c35b0] | (simp only [i64_w, i32_w]; rw [c35b0]) | skip)
               have H' := Aside0.mk H; clear H
               as_aux_lemma =>
                go_wp2
                go_meet
                case rel => exact ⟨_, (true), cl, H', ⟨by have := HK1.out; have := HJ12.out; have := HJ15.out; have := HJ19.out; first | omega | exact Nat.le_refl _⟩, ⟨by (with_reducible repeat (first | apply Kd.R_alloc | apply Kd.R_drewN | apply Kd.R_drew)); exact HO_4.out⟩, ⟨bw⟩⟩
              ·rw [if_neg c35] at H; have c35b0 : (x6_15 == 2) = false := beq_eq_false_iff_ne.mpr c35; have c35b1 : (x6_15 != 2) = true := bne_iff_ne.mpr c35
               (first | rw [c35b0] | (simp only [i64_w, i32_w]; rw [c35b0]) | skip)
               have H' := Aside0.mk H; clear H
               as_aux_lemma =>
                go_wp2
                go_meet
                case rel => exact ⟨_, ((x6_15 == 3)), cl, H', ⟨by have := HK1.out; have := HJ12.out; have := HJ15.out; have := HJ19.out; first | omega | exact Nat.le_refl _⟩, ⟨by (with_reducible repeat (first | apply Kd.R_alloc | apply Kd.R_drewN | apply Kd.R_drew)); exact HO_4.out⟩, ⟨bw⟩⟩
             case rest =>
              clear HC34
              try clear c1
              try clear c2
              try clear c2b0
              try clear p2
              try clear q2
              try clear hx2
              try clear c3
              try clear c3b0
              try clear p3
              try clear q3
              try clear hx3
              try clear p4
              try clear q4
              try clear hx4
              try clear c5
              try clear c6
              try clear p6
              try clear c7
              try clear c8
              try clear c8b0
              try clear c8b1
              try clear c9
              try clear c9b0
              try clear c10
              try clear c10b0
              try clear c10b1
              try clear c11
              try clear c11b0
              try clear c11b1
              try clear c12
              try clear c12b0
              try clear c12b1
              try clear c12b2
              try clear c14
              try clear c14b0
              try clear c14b1
              try clear c17
              try clear c18
              try clear c21
              try clear c21b0
              try clear c21b1
              try clear c22
              try clear c22b0
              try clear c24
              try clear c24b0
              try clear c25
              try clear c25b0
              try clear p26
              try clear q26
              try clear hx26
              try clear c27
              try clear c27b0
              try clear c27b1
              try clear c29
              try clear c29b0
              try clear p30
              try clear q30
              try clear hx30
              try clear c31
              try clear c31b0
              try clear c31b1
              try clear p32
              try clear q32
              try clear hx32
              try clear c33
              try clear c35
              try clear c35b0
              try clear c35b1
              try clear p2
              try clear p26
              try clear p3
              try clear p30
              try clear p32
              try clear p4
              try clear p6
              try clear q2
              try clear q26
              try clear q3
              try clear q30
              try clear q32
              try clear q4
              obtain ⟨kq, x82_33, rfl, HA, HJ33, HO_4, HB⟩ := hcut; cases kq with
              | zero => exact absurd HA.out (by simp [bulletinref12_Scan.j4])
              | succ kj33 =>
               have H := HA.out; clear HA; simp only [bulletinref12_Scan.j4] at H; have HC36 := Aside0.mk H; clear H
               go_upto_if 82 with (fail)
               go_cut [8] (fun v8 wc => ∃ (kq : Nat) (x8_35 : Bool), v8 = .bool x8_35 ∧ Aside0 (bulletinref12_Scan.j5 kq a0 x4_15 x5_15 x6_15 x7_1 x8_35 x9_1 (bt a0 x9_1) = some (r1, r2)) ∧ Aside0 (kq ≤ kj33) ∧ Aside0 (Kd.R k109 109 wc w.heap.size (fun _ => True) u4 x4_15) ∧ Aside0 (Below w.heap.size w wc))
               case first =>
                have H := HC36.out; clear HC36
                by_cases c37 : x82_33 = true
                ·subst c37; have H1 : (if (bt a0 x9_1) = 92 then (bulletinref12_Scan.l0 kj33 a0 x4_15 x5_15 x6_15 x7_1 true (wrap64 (x9_1 + 1))) else ((bulletinref12_Text.f (bt a0 x9_1)).bind fun t418 => (if t418 = true then (bulletinref12_Scan.j5 kj33 a0 x4_15 x5_15 x6_15 x7_1 false x9_1 (bt a0 x9_1)) else (some (([] : List (S109)), 3))))) = some (r1, r2) := by rw [if_pos rfl] at H; exact H
                 clear H; have H := H1; clear H1
                 by_cases c38 : (bt a0 x9_1) = 92
                 ·rw [if_pos c38] at H; have c38b0 : ((bt a0 x9_1) == 92) = true := beq_iff_eq.mpr c38; have c38b1 : ((bt a0 x9_1) != 92) = false := bne_eq_false_iff_eq.mpr c38; clear c38
                  (first | rw [c38b0] | (simp only [i64_w, i32_w]; rw [c38b0]) | skip)
                  have H' := Aside0.mk H; clear H
                  as_aux_lemma =>
                   go_wp2
                   go_roundg kj33
                   case measure => have := HK1.out; have := HJ12.out; have := HJ15.out; have := HJ19.out; have := HJ33.out; omega
                   case rel => exact ⟨(x4_15), (x5_15), (x6_15), (x7_1), (true), (wrap64 (x9_1 + 1)), cl, cl, cl, cl, cl, H', ⟨by have := HK1.out; have := HJ12.out; have := HJ15.out; have := HJ19.out; have := HJ33.out; omega⟩, ⟨by (with_reducible repeat (first | apply Kd.R_alloc | apply Kd.R_drewN | apply Kd.R_drew)); exact HO_4.out⟩, ⟨bw⟩⟩
                 ·rw [if_neg c38] at H; have c38b0 : ((bt a0 x9_1) == 92) = false := beq_eq_false_iff_ne.mpr c38; have c38b1 : ((bt a0 x9_1) != 92) = true := bne_iff_ne.mpr c38
                  (first | rw [c38b0] | (simp only [i64_w, i32_w]; rw [c38b0]) | skip)
                  replace H := Option.bind_eq_some_iff.mp H; obtain ⟨t418, A390, H⟩ := H; replace H : (if t418 = true then (bulletinref12_Scan.j5 kj33 a0 x4_15 x5_15 x6_15 x7_1 false x9_1 (bt a0 x9_1)) else (some (([] : List (S109)), 3))) = some (r1, r2) := H; have A39 := Aside0.mk A390; clear A390
                  by_cases c40 : t418 = true
                  ·subst c40; have H1 : (bulletinref12_Scan.j5 kj33 a0 x4_15 x5_15 x6_15 x7_1 false x9_1 (bt a0 x9_1)) = some (r1, r2) := by rw [if_pos rfl] at H; exact H
                   clear H; have H := H1; clear H1; have H' := Aside0.mk H; clear H
                   as_aux_lemma =>
                    go_wp2_with (first | ((with_reducible refine gate_callee (f := 104) rfl ?_); refine goesL_ (some 86) rfl rfl Tryd.func104 (by kernel_rfl) rfl #[.int .u8 (bt a0 x9_1)] rfl am ?_; (with_reducible refine (bulletinref12_Text.calls (bt a0 x9_1) true _ A39.out).mono ?_); rintro e w' ⟨rfl, ⟨nd, rfl⟩⟩; refine ⟨_, rfl, ?_⟩))
                    go_meet
                    case rel => exact ⟨_, (false), cl, H', ⟨by have := HK1.out; have := HJ12.out; have := HJ15.out; have := HJ19.out; have := HJ33.out; first | omega | exact Nat.le_refl _⟩, ⟨by (with_reducible repeat (first | apply Kd.R_alloc | apply Kd.R_drewN | apply Kd.R_drew)); exact HO_4.out⟩, ⟨bw⟩⟩
                  ·replace c40 := Bool.eq_false_iff.mpr c40; subst c40; have H1 : (some (([] : List (S109)), 3)) = some (r1, r2) := by rw [if_neg (show ¬ (false = true) by decide)] at H; exact H
                   clear H; have H := H1; clear H1; simp only [Option.some.injEq, Prod.mk.injEq] at H; obtain ⟨rfl, rfl⟩ := H
                   as_aux_lemma =>
                    go_wp2_with (first | ((with_reducible refine gate_callee (f := 104) rfl ?_); refine goesL_ (some 86) rfl rfl Tryd.func104 (by kernel_rfl) rfl #[.int .u8 (bt a0 x9_1)] rfl am ?_; (with_reducible refine (bulletinref12_Text.calls (bt a0 x9_1) false _ A39.out).mono ?_); rintro e w' ⟨rfl, ⟨nd, rfl⟩⟩; refine ⟨_, rfl, ?_⟩))
                    go_ret2
                    exact ⟨_, ew, by first | exact Kd.R_nil _ _ _ _ _ | exact Kd.N_nil _ _ _ _ _ | exact Kd.V_nil _ _ _ _ _ | exact Kd.Q_nil _ _ _ _ _ | exact Kd.S_nil _ _ _ _ _, bw⟩
                ·replace c37 := Bool.eq_false_iff.mpr c37; subst c37; have H1 : (bulletinref12_Scan.j5 kj33 a0 x4_15 x5_15 x6_15 x7_1 false x9_1 (bt a0 x9_1)) = some (r1, r2) := by rw [if_neg (show ¬ (false = true) by decide)] at H; exact H
                 clear H; have H := H1; clear H1; have H' := Aside0.mk H; clear H
                 as_aux_lemma =>
                  go_wp2
                  go_meet
                  case rel => exact ⟨_, (false), cl, H', ⟨by have := HK1.out; have := HJ12.out; have := HJ15.out; have := HJ19.out; have := HJ33.out; first | omega | exact Nat.le_refl _⟩, ⟨by (with_reducible repeat (first | apply Kd.R_alloc | apply Kd.R_drewN | apply Kd.R_drew)); exact HO_4.out⟩, ⟨bw⟩⟩
               case rest =>
                clear HC36
                try clear c1
                try clear c2
                try clear c2b0
                try clear p2
                try clear q2
                try clear hx2
                try clear c3
                try clear c3b0
                try clear p3
                try clear q3
                try clear hx3
                try clear c4
                try clear p4
                try clear q4
                try clear hx4
                try clear c5
                try clear c6
                try clear p6
                try clear c7
                try clear c8
                try clear c8b0
                try clear c8b1
                try clear c9
                try clear c9b0
                try clear c10
                try clear c10b0
                try clear c10b1
                try clear c11
                try clear c11b0
                try clear c11b1
                try clear c12
                try clear c12b0
                try clear c12b1
                try clear c12b2
                try clear c14
                try clear c14b0
                try clear c14b1
                try clear c17
                try clear c18
                try clear c21
                try clear c21b0
                try clear c21b1
                try clear c22
                try clear c22b0
                try clear c24
                try clear c24b0
                try clear c25
                try clear c25b0
                try clear p26
                try clear q26
                try clear hx26
                try clear c27
                try clear c27b0
                try clear c27b1
                try clear c29
                try clear c29b0
                try clear p30
                try clear q30
                try clear hx30
                try clear c31
                try clear c31b0
                try clear c31b1
                try clear p32
                try clear q32
                try clear hx32
                try clear c33
                try clear c35
                try clear c35b0
                try clear c35b1
                try clear c37
                try clear c38
                try clear c38b0
                try clear c38b1
                try clear c40
                try clear p2
                try clear p26
                try clear p3
                try clear p30
                try clear p32
                try clear p4
                try clear p6
                try clear q2
                try clear q26
                try clear q3
                try clear q30
                try clear q32
                try clear q4
                obtain ⟨kq, x8_35, rfl, HA, HJ35, HO_4, HB⟩ := hcut; cases kq with
                | zero => exact absurd HA.out (by simp [bulletinref12_Scan.j5])
                | succ kj35 =>
                 have H := HA.out; clear HA; simp only [bulletinref12_Scan.j5] at H
                 by_cases c41 : x6_15 = 2
                 ·rw [if_pos c41] at H; have c41b0 : (x6_15 == 2) = true := beq_iff_eq.mpr c41; have c41b1 : (x6_15 != 2) = false := bne_eq_false_iff_eq.mpr c41; clear c41
                  by_cases c42 : (bt a0 x9_1) = 34
                  ·rw [if_pos c42] at H; have c42b0 : ((bt a0 x9_1) == 34) = true := beq_iff_eq.mpr c42; have c42b1 : ((bt a0 x9_1) != 34) = false := bne_eq_false_iff_eq.mpr c42; clear c42
                   by_cases c43 : x4_15.length < 5864062014805
                   ·rw [if_pos c43] at H; have LMc43 := Aside0.mk c43; clear c43; obtain ⟨y419, hy419⟩ : ∃ y_ : List (S109), y_ = (x4_15 ++ [(⟨2, x5_15⟩ : S109)]) := ⟨_, rfl⟩
                    replace H : (bulletinref12_Scan.l0 kj35 a0 y419 (⟨#[]⟩ : ByteArray) 0 x7_1 x8_35 (wrap64 (x9_1 + 1))) = some (r1, r2) := by first | (rw [hy419]; with_reducible exact H) | (have H2_ := (Option.bind_some _ _).symm.trans H; rw [hy419]; with_reducible exact H2_) | (have H2_ := (Option.bind_some _ _).symm.trans H; with_reducible exact H2_) | with_reducible exact H | (rw [hy419]; exact H) | exact H
                    have Ny419 := Aside0.mk hy419; clear hy419; have H' := Aside0.mk H; clear H
                    as_aux_lemma =>
                     go_wp2_with (first | ((with_reducible refine gate_builtin (b := .append) (xs := #[.tmp 92, .tmp 95]) rfl ?_); (try (refine gate_guard (by rfl) ?_; dsimp only)); at_builtin; refine Kd.R_append k109 (w0 := w) w.heap.size rfl (.tmp 92) (.tmp 95) 105 109 (.agg #[(.int .i64 0), (.string ⟨#[]⟩)]) 24 rfl Tryd.underlying105 info109 rfl (by decide) (by omega) u4 x4_15 (⟨2, x5_15⟩ : S109) [.int .i64 2, .string x5_15] (fun _ => True) (fun _ => False) rfl rfl ?aP (fun _ hk => hk.elim) ?aF ?aO ?aB ?aS ?aL ?_; (case aP => exact k109_mkM _ _ _ (⟨2, x5_15⟩ : S109)); (case aB => exact bw); (case aF => exact (fun _ _ => trivial)); (case aO => exact (ra HO_4.out)); (case aS => exact (below_size bw)); (case aL => have := LMc43.out; omega); intro v420 w44 ho hb hg hat; rw [← Ny419.out] at ho; have n0_ := Aside0.mk (hb); have n1_ := Aside0.mk (ho); clear HB; clear HO_4; have HB := n0_; have HO421 := n1_; clear n0_ n1_; clear ho hb hg hat))
                     go_roundg kj35
                     case measure => have := HK1.out; have := HJ12.out; have := HJ15.out; have := HJ19.out; have := HJ33.out; have := HJ35.out; omega
                     case rel => exact ⟨(y419), ((⟨#[]⟩ : ByteArray)), (0), (x7_1), (x8_35), (wrap64 (x9_1 + 1)), cl, cl, cl, cl, cl, H', ⟨by have := HK1.out; have := HJ12.out; have := HJ15.out; have := HJ19.out; have := HJ33.out; have := HJ35.out; omega⟩, ⟨by (with_reducible repeat (first | apply Kd.R_alloc | apply Kd.R_drewN | apply Kd.R_drew)); exact HO421.out⟩, ⟨bw⟩⟩
                   ·rw [if_neg c43] at H; exact absurd H (by simp)
                  ·rw [if_neg c42] at H; have c42b0 : ((bt a0 x9_1) == 34) = false := beq_eq_false_iff_ne.mpr c42; have c42b1 : ((bt a0 x9_1) != 34) = true := bne_iff_ne.mpr c42
                   by_cases c45 : 0 ≤ x9_1
                   ·rw [if_pos c45] at H; have c45b0 := eq_true c45; have c45b1 : decide (0 ≤ x9_1) = true := decide_eq_true c45; clear c45
                    by_cases c46 : x9_1 ≤ (wrap64 (x9_1 + 1))
                    ·rw [if_pos c46] at H; have c46b0 := eq_true c46; have c46b1 : decide (x9_1 ≤ (wrap64 (x9_1 + 1))) = true := decide_eq_true c46
                     by_cases c47 : (wrap64 (x9_1 + 1)) ≤ (a0.size : Int)
                     ·rw [if_pos c47] at H; have c47b0 := eq_true c47; have c47b1 : decide ((wrap64 (x9_1 + 1)) ≤ (a0.size : Int)) = true := decide_eq_true c47
                      by_cases c48 : x5_15.size + (a0.extract (x9_1 : Int).toNat ((wrap64 (x9_1 + 1)) : Int).toNat).size ≤ 9223372036854775807
                      ·rw [if_pos c48] at H; have c48b0 := eq_true c48; have c48b1 : decide (x5_15.size + (a0.extract (x9_1 : Int).toNat ((wrap64 (x9_1 + 1)) : Int).toNat).size ≤ 9223372036854775807) = true := decide_eq_true c48
                       try have c48b2 : (9223372036854775807 < x5_15.size + (a0.extract (x9_1 : Int).toNat ((wrap64 (x9_1 + 1)) : Int).toNat).size) = False := eq_false (Nat.not_lt.2 c48)
                       try (have c48b3 := c48; simp only [ByteArray.size_append, size_lit, ByteArray.size_extract, List.size_toArray, List.length_cons, List.length_nil, Nat.zero_add, Nat.reduceAdd] at c48b3; have c48b4 := eq_false (Nat.not_lt.2 c48b3))
                       have H' := Aside0.mk H; clear H
                       as_aux_lemma =>
                        go_wp2
                        go_roundg kj35
                        case measure => have := HK1.out; have := HJ12.out; have := HJ15.out; have := HJ19.out; have := HJ33.out; have := HJ35.out; omega
                        case rel => exact ⟨(x4_15), (x5_15 ++ (a0.extract (x9_1 : Int).toNat ((wrap64 (x9_1 + 1)) : Int).toNat)), (x6_15), (x7_1), (x8_35), (wrap64 (x9_1 + 1)), cl, cl, cl, cl, cl, H', ⟨by have := HK1.out; have := HJ12.out; have := HJ15.out; have := HJ19.out; have := HJ33.out; have := HJ35.out; omega⟩, ⟨by (with_reducible repeat (first | apply Kd.R_alloc | apply Kd.R_drewN | apply Kd.R_drew)); exact HO_4.out⟩, ⟨bw⟩⟩
                      ·rw [if_neg c48] at H; exact absurd H (by simp)
                     ·rw [if_neg c47] at H; exact absurd H (by simp)
                    ·rw [if_neg c46] at H; exact absurd H (by simp)
                   ·rw [if_neg c45] at H; exact absurd H (by simp)
                 ·rw [if_neg c41] at H; have c41b0 : (x6_15 == 2) = false := beq_eq_false_iff_ne.mpr c41; have c41b1 : (x6_15 != 2) = true := bne_iff_ne.mpr c41
                  by_cases c49 : x6_15 = 3
                  ·rw [if_pos c49] at H; have c49b0 : (x6_15 == 3) = true := beq_iff_eq.mpr c49; have c49b1 : (x6_15 != 3) = false := bne_eq_false_iff_eq.mpr c49; clear c49; have HC50 := Aside0.mk H; clear H
                   go_upto_if 107 with (fail)
                   go_cut [7] (fun v7 wc => ∃ (kq : Nat) (x7_49 : Int), v7 = .int .i64 x7_49 ∧ Aside0 (bulletinref12_Scan.j6 kq a0 x4_15 x5_15 x6_15 x7_49 x8_35 x9_1 (bt a0 x9_1) = some (r1, r2)) ∧ Aside0 (kq ≤ kj35) ∧ Aside0 (Kd.R k109 109 wc w.heap.size (fun _ => True) u4 x4_15) ∧ Aside0 (Below w.heap.size w wc))
                   case first =>
                    have H := HC50.out; clear HC50
                    by_cases c51 : (bt a0 x9_1) = 40
                    ·rw [if_pos c51] at H; have c51b0 : ((bt a0 x9_1) == 40) = true := beq_iff_eq.mpr c51; have c51b1 : ((bt a0 x9_1) != 40) = false := bne_eq_false_iff_eq.mpr c51; clear c51
                     (first | rw [c51b0] | (simp only [i64_w, i32_w]; rw [c51b0]) | skip)
                     have H' := Aside0.mk H; clear H
                     as_aux_lemma =>
                      go_wp2
                      go_meet
                      case rel => exact ⟨_, (wrap64 (x7_1 + 1)), cl, H', ⟨by have := HK1.out; have := HJ12.out; have := HJ15.out; have := HJ19.out; have := HJ33.out; have := HJ35.out; first | omega | exact Nat.le_refl _⟩, ⟨by (with_reducible repeat (first | apply Kd.R_alloc | apply Kd.R_drewN | apply Kd.R_drew)); exact HO_4.out⟩, ⟨bw⟩⟩
                    ·rw [if_neg c51] at H; have c51b0 : ((bt a0 x9_1) == 40) = false := beq_eq_false_iff_ne.mpr c51; have c51b1 : ((bt a0 x9_1) != 40) = true := bne_iff_ne.mpr c51
                     (first | rw [c51b0] | (simp only [i64_w, i32_w]; rw [c51b0]) | skip)
                     have H' := Aside0.mk H; clear H
                     as_aux_lemma =>
                      go_wp2
                      go_meet
                      case rel => exact ⟨_, (x7_1), cl, H', ⟨by have := HK1.out; have := HJ12.out; have := HJ15.out; have := HJ19.out; have := HJ33.out; have := HJ35.out; first | omega | exact Nat.le_refl _⟩, ⟨by (with_reducible repeat (first | apply Kd.R_alloc | apply Kd.R_drewN | apply Kd.R_drew)); exact HO_4.out⟩, ⟨bw⟩⟩
                   case rest =>
                    clear HC50
                    try clear c1
                    try clear c2
                    try clear c2b0
                    try clear p2
                    try clear q2
                    try clear hx2
                    try clear c3
                    try clear c3b0
                    try clear p3
                    try clear q3
                    try clear hx3
                    try clear c4
                    try clear p4
                    try clear q4
                    try clear hx4
                    try clear c5
                    try clear c6
                    try clear p6
                    try clear c7
                    try clear c8
                    try clear c8b0
                    try clear c8b1
                    try clear c9
                    try clear c9b0
                    try clear c10
                    try clear c10b0
                    try clear c10b1
                    try clear c11
                    try clear c11b0
                    try clear c11b1
                    try clear c12
                    try clear c12b0
                    try clear c12b1
                    try clear c12b2
                    try clear c14
                    try clear c14b0
                    try clear c14b1
                    try clear c17
                    try clear c18
                    try clear c21
                    try clear c21b0
                    try clear c21b1
                    try clear c22
                    try clear c22b0
                    try clear c24
                    try clear c24b0
                    try clear c25
                    try clear c25b0
                    try clear p26
                    try clear q26
                    try clear hx26
                    try clear c27
                    try clear c27b0
                    try clear c27b1
                    try clear c29
                    try clear c29b0
                    try clear p30
                    try clear q30
                    try clear hx30
                    try clear c31
                    try clear c31b0
                    try clear c31b1
                    try clear p32
                    try clear q32
                    try clear hx32
                    try clear c33
                    try clear c35
                    try clear c35b0
                    try clear c35b1
                    try clear c37
                    try clear c38
                    try clear c38b0
                    try clear c38b1
                    try clear c40
                    try clear c41
                    try clear c41b0
                    try clear c41b1
                    try clear c42
                    try clear c42b0
                    try clear c42b1
                    try clear c43
                    try clear c45
                    try clear c45b0
                    try clear c45b1
                    try clear c46
                    try clear c46b0
                    try clear c46b1
                    try clear c47
                    try clear c47b0
                    try clear c47b1
                    try clear c48
                    try clear c48b0
                    try clear c48b1
                    try clear c48b2
                    try clear c49
                    try clear c49b0
                    try clear c49b1
                    try clear c51
                    try clear c51b0
                    try clear c51b1
                    try clear p2
                    try clear p26
                    try clear p3
                    try clear p30
                    try clear p32
                    try clear p4
                    try clear p6
                    try clear q2
                    try clear q26
                    try clear q3
                    try clear q30
                    try clear q32
                    try clear q4
                    obtain ⟨kq, x7_49, rfl, HA, HJ49, HO_4, HB⟩ := hcut; cases kq with
                    | zero => exact absurd HA.out (by simp [bulletinref12_Scan.j6])
                    | succ kj49 =>
                     have H := HA.out; clear HA; simp only [bulletinref12_Scan.j6] at H; have HC52 := Aside0.mk H; clear H
                     go_upto_if 111 with (fail)
                     go_cut [7] (fun v7 wc => ∃ (kq : Nat) (x7_51 : Int), v7 = .int .i64 x7_51 ∧ Aside0 (bulletinref12_Scan.j7 kq a0 x4_15 x5_15 x6_15 x7_51 x8_35 x9_1 = some (r1, r2)) ∧ Aside0 (kq ≤ kj49) ∧ Aside0 (Kd.R k109 109 wc w.heap.size (fun _ => True) u4 x4_15) ∧ Aside0 (Below w.heap.size w wc))
                     case first =>
                      have H := HC52.out; clear HC52
                      by_cases c53 : (bt a0 x9_1) = 41
                      ·rw [if_pos c53] at H; have c53b0 : ((bt a0 x9_1) == 41) = true := beq_iff_eq.mpr c53; have c53b1 : ((bt a0 x9_1) != 41) = false := bne_eq_false_iff_eq.mpr c53; clear c53
                       (first | rw [c53b0] | (simp only [i64_w, i32_w]; rw [c53b0]) | skip)
                       have H' := Aside0.mk H; clear H
                       as_aux_lemma =>
                        go_wp2
                        go_meet
                        case rel => exact ⟨_, (wrap64 (x7_49 - 1)), cl, H', ⟨by have := HK1.out; have := HJ12.out; have := HJ15.out; have := HJ19.out; have := HJ33.out; have := HJ35.out; have := HJ49.out; first | omega | exact Nat.le_refl _⟩, ⟨by (with_reducible repeat (first | apply Kd.R_alloc | apply Kd.R_drewN | apply Kd.R_drew)); exact HO_4.out⟩, ⟨bw⟩⟩
                      ·rw [if_neg c53] at H; have c53b0 : ((bt a0 x9_1) == 41) = false := beq_eq_false_iff_ne.mpr c53; have c53b1 : ((bt a0 x9_1) != 41) = true := bne_iff_ne.mpr c53
                       (first | rw [c53b0] | (simp only [i64_w, i32_w]; rw [c53b0]) | skip)
                       have H' := Aside0.mk H; clear H
                       as_aux_lemma =>
                        go_wp2
                        go_meet
                        case rel => exact ⟨_, (x7_49), cl, H', ⟨by have := HK1.out; have := HJ12.out; have := HJ15.out; have := HJ19.out; have := HJ33.out; have := HJ35.out; have := HJ49.out; first | omega | exact Nat.le_refl _⟩, ⟨by (with_reducible repeat (first | apply Kd.R_alloc | apply Kd.R_drewN | apply Kd.R_drew)); exact HO_4.out⟩, ⟨bw⟩⟩
                     case rest =>
                      clear HC52
                      try clear c1
                      try clear c2
                      try clear c2b0
                      try clear p2
                      try clear q2
                      try clear hx2
                      try clear c3
                      try clear c3b0
                      try clear p3
                      try clear q3
                      try clear hx3
                      try clear c4
                      try clear p4
                      try clear q4
                      try clear hx4
                      try clear c5
                      try clear c6
                      try clear p6
                      try clear c7
                      try clear c8
                      try clear c8b0
                      try clear c8b1
                      try clear c9
                      try clear c9b0
                      try clear c10
                      try clear c10b0
                      try clear c10b1
                      try clear c11
                      try clear c11b0
                      try clear c11b1
                      try clear c12
                      try clear c12b0
                      try clear c12b1
                      try clear c12b2
                      try clear c14
                      try clear c14b0
                      try clear c14b1
                      try clear c17
                      try clear c18
                      try clear c21
                      try clear c21b0
                      try clear c21b1
                      try clear c22
                      try clear c22b0
                      try clear c24
                      try clear c24b0
                      try clear c25
                      try clear c25b0
                      try clear p26
                      try clear q26
                      try clear hx26
                      try clear c27
                      try clear c27b0
                      try clear c27b1
                      try clear c29
                      try clear c29b0
                      try clear p30
                      try clear q30
                      try clear hx30
                      try clear c31
                      try clear c31b0
                      try clear c31b1
                      try clear p32
                      try clear q32
                      try clear hx32
                      try clear c33
                      try clear c35
                      try clear c35b0
                      try clear c35b1
                      try clear c37
                      try clear c38
                      try clear c38b0
                      try clear c38b1
                      try clear c40
                      try clear c41
                      try clear c41b0
                      try clear c41b1
                      try clear c42
                      try clear c42b0
                      try clear c42b1
                      try clear c43
                      try clear c45
                      try clear c45b0
                      try clear c45b1
                      try clear c46
                      try clear c46b0
                      try clear c46b1
                      try clear c47
                      try clear c47b0
                      try clear c47b1
                      try clear c48
                      try clear c48b0
                      try clear c48b1
                      try clear c48b2
                      try clear c49
                      try clear c49b0
                      try clear c49b1
                      try clear c51
                      try clear c51b0
                      try clear c51b1
                      try clear c53
                      try clear c53b0
                      try clear c53b1
                      try clear p2
                      try clear p26
                      try clear p3
                      try clear p30
                      try clear p32
                      try clear p4
                      try clear p6
                      try clear q2
                      try clear q26
                      try clear q3
                      try clear q30
                      try clear q32
                      try clear q4
                      obtain ⟨kq, x7_51, rfl, HA, HJ51, HO_4, HB⟩ := hcut; cases kq with
                      | zero => exact absurd HA.out (by simp [bulletinref12_Scan.j7])
                      | succ kj51 =>
                       have H := HA.out; clear HA; simp only [bulletinref12_Scan.j7] at H
                       by_cases c54 : x7_51 > 16
                       ·rw [if_pos c54] at H; have c54b0 : decide (16 < x7_51) = true := decide_eq_true c54; clear c54; simp only [Option.some.injEq, Prod.mk.injEq] at H; obtain ⟨rfl, rfl⟩ := H
                        as_aux_lemma =>
                         go_wp2
                         go_ret2
                         exact ⟨_, ew, by first | exact Kd.R_nil _ _ _ _ _ | exact Kd.N_nil _ _ _ _ _ | exact Kd.V_nil _ _ _ _ _ | exact Kd.Q_nil _ _ _ _ _ | exact Kd.S_nil _ _ _ _ _, bw⟩
                       ·rw [if_neg c54] at H; have c54b0 : decide (16 < x7_51) = false := decide_eq_false c54; clear c54
                        by_cases c55 : x7_51 = 0
                        ·rw [if_pos c55] at H; have c55b0 : (x7_51 == 0) = true := beq_iff_eq.mpr c55; have c55b1 : (x7_51 != 0) = false := bne_eq_false_iff_eq.mpr c55; clear c55; have H' := Aside0.mk H; clear H
                         as_aux_lemma =>
                          go_wp2
                          go_roundg kj51
                          case measure => have := HK1.out; have := HJ12.out; have := HJ15.out; have := HJ19.out; have := HJ33.out; have := HJ35.out; have := HJ49.out; have := HJ51.out; omega
                          case rel => exact ⟨(x4_15), (x5_15), (0), (x7_51), (x8_35), (wrap64 (x9_1 + 1)), cl, cl, cl, cl, cl, H', ⟨by have := HK1.out; have := HJ12.out; have := HJ15.out; have := HJ19.out; have := HJ33.out; have := HJ35.out; have := HJ49.out; have := HJ51.out; omega⟩, ⟨by (with_reducible repeat (first | apply Kd.R_alloc | apply Kd.R_drewN | apply Kd.R_drew)); exact HO_4.out⟩, ⟨bw⟩⟩
                        ·rw [if_neg c55] at H; have c55b0 : (x7_51 == 0) = false := beq_eq_false_iff_ne.mpr c55; have c55b1 : (x7_51 != 0) = true := bne_iff_ne.mpr c55; have H' := Aside0.mk H; clear H
                         as_aux_lemma =>
                          go_wp2
                          go_roundg kj51
                          case measure => have := HK1.out; have := HJ12.out; have := HJ15.out; have := HJ19.out; have := HJ33.out; have := HJ35.out; have := HJ49.out; have := HJ51.out; omega
                          case rel => exact ⟨(x4_15), (x5_15), (x6_15), (x7_51), (x8_35), (wrap64 (x9_1 + 1)), cl, cl, cl, cl, cl, H', ⟨by have := HK1.out; have := HJ12.out; have := HJ15.out; have := HJ19.out; have := HJ33.out; have := HJ35.out; have := HJ49.out; have := HJ51.out; omega⟩, ⟨by (with_reducible repeat (first | apply Kd.R_alloc | apply Kd.R_drewN | apply Kd.R_drew)); exact HO_4.out⟩, ⟨bw⟩⟩
                  ·rw [if_neg c49] at H; have c49b0 : (x6_15 == 3) = false := beq_eq_false_iff_ne.mpr c49; have c49b1 : (x6_15 != 3) = true := bne_iff_ne.mpr c49; replace H := Option.bind_eq_some_iff.mp H; obtain ⟨t422, A560, H⟩ := H; replace H : (if t422 = true then (if 0 ≤ x9_1 then (if x9_1 ≤ (wrap64 (x9_1 + 1)) then (if (wrap64 (x9_1 + 1)) ≤ (a0.size : Int) then (if x5_15.size + (a0.extract (x9_1 : Int).toNat ((wrap64 (x9_1 + 1)) : Int).toNat).size ≤ 9223372036854775807 then (bulletinref12_Scan.l0 kj35 a0 x4_15 (x5_15 ++ (a0.extract (x9_1 : Int).toNat ((wrap64 (x9_1 + 1)) : Int).toNat)) 1 x7_1 x8_35 (wrap64 (x9_1 + 1))) else (none)) else (none)) else (none)) else (none)) else (if (bt a0 x9_1) = 34 then (bulletinref12_Scan.l0 kj35 a0 x4_15 x5_15 2 x7_1 x8_35 (wrap64 (x9_1 + 1))) else (if (bt a0 x9_1) = 40 then (bulletinref12_Scan.l0 kj35 a0 x4_15 x5_15 3 1 x8_35 (wrap64 (x9_1 + 1))) else ((bulletinref12_among.f kj35 (bt a0 x9_1) (⟨#[60, 62, 58, 59, 64, 44, 46]⟩ : ByteArray)).bind fun t423 => (if t423 = true then (if 0 ≤ x9_1 then (if x9_1 ≤ (wrap64 (x9_1 + 1)) then (if (wrap64 (x9_1 + 1)) ≤ (a0.size : Int) then (if x4_15.length < 5864062014805 then (bulletinref12_Scan.l0 kj35 a0 (x4_15 ++ [(⟨3, a0.extract (x9_1 : Int).toNat ((wrap64 (x9_1 + 1)) : Int).toNat⟩ : S109)]) x5_15 x6_15 x7_1 x8_35 (wrap64 (x9_1 + 1))) else (none)) else (none)) else (none)) else (none)) else (if (bt a0 x9_1) = 32 then (bulletinref12_Scan.l0 kj35 a0 x4_15 x5_15 x6_15 x7_1 x8_35 (wrap64 (x9_1 + 1))) else (if (bt a0 x9_1) = 9 then (bulletinref12_Scan.l0 kj35 a0 x4_15 x5_15 x6_15 x7_1 x8_35 (wrap64 (x9_1 + 1))) else (some (([] : List (S109)), 3))))))))) = some (r1, r2) := H; have A56 := Aside0.mk A560; clear A560
                   by_cases c57 : t422 = true
                   ·subst c57; have H1 : (if 0 ≤ x9_1 then (if x9_1 ≤ (wrap64 (x9_1 + 1)) then (if (wrap64 (x9_1 + 1)) ≤ (a0.size : Int) then (if x5_15.size + (a0.extract (x9_1 : Int).toNat ((wrap64 (x9_1 + 1)) : Int).toNat).size ≤ 9223372036854775807 then (bulletinref12_Scan.l0 kj35 a0 x4_15 (x5_15 ++ (a0.extract (x9_1 : Int).toNat ((wrap64 (x9_1 + 1)) : Int).toNat)) 1 x7_1 x8_35 (wrap64 (x9_1 + 1))) else (none)) else (none)) else (none)) else (none)) = some (r1, r2) := by rw [if_pos rfl] at H; exact H
                    clear H; have H := H1; clear H1
                    by_cases c58 : 0 ≤ x9_1
                    ·rw [if_pos c58] at H; have c58b0 := eq_true c58; have c58b1 : decide (0 ≤ x9_1) = true := decide_eq_true c58; clear c58
                     by_cases c59 : x9_1 ≤ (wrap64 (x9_1 + 1))
                     ·rw [if_pos c59] at H; have c59b0 := eq_true c59; have c59b1 : decide (x9_1 ≤ (wrap64 (x9_1 + 1))) = true := decide_eq_true c59
                      by_cases c60 : (wrap64 (x9_1 + 1)) ≤ (a0.size : Int)
                      ·rw [if_pos c60] at H; have c60b0 := eq_true c60; have c60b1 : decide ((wrap64 (x9_1 + 1)) ≤ (a0.size : Int)) = true := decide_eq_true c60
                       by_cases c61 : x5_15.size + (a0.extract (x9_1 : Int).toNat ((wrap64 (x9_1 + 1)) : Int).toNat).size ≤ 9223372036854775807
                       ·rw [if_pos c61] at H; have c61b0 := eq_true c61; have c61b1 : decide (x5_15.size + (a0.extract (x9_1 : Int).toNat ((wrap64 (x9_1 + 1)) : Int).toNat).size ≤ 9223372036854775807) = true := decide_eq_true c61
                        try have c61b2 : (9223372036854775807 < x5_15.size + (a0.extract (x9_1 : Int).toNat ((wrap64 (x9_1 + 1)) : Int).toNat).size) = False := eq_false (Nat.not_lt.2 c61)
                        try (have c61b3 := c61; simp only [ByteArray.size_append, size_lit, ByteArray.size_extract, List.size_toArray, List.length_cons, List.length_nil, Nat.zero_add, Nat.reduceAdd] at c61b3; have c61b4 := eq_false (Nat.not_lt.2 c61b3))
                        have H' := Aside0.mk H; clear H
                        as_aux_lemma =>
                         go_wp2_with (first | ((with_reducible refine gate_callee (f := 105) rfl ?_); refine goesL_ (some 119) rfl rfl Tryd.func105 (by kernel_rfl) rfl #[.int .u8 (bt a0 x9_1)] rfl am ?_; (with_reducible refine (bulletinref12_atomic.calls kj35 (bt a0 x9_1) true _ A56.out).mono ?_); rintro e w' ⟨rfl, ⟨nd, rfl⟩⟩; refine ⟨_, rfl, ?_⟩))
                         go_roundg kj35
                         case measure => have := HK1.out; have := HJ12.out; have := HJ15.out; have := HJ19.out; have := HJ33.out; have := HJ35.out; omega
                         case rel => exact ⟨(x4_15), (x5_15 ++ (a0.extract (x9_1 : Int).toNat ((wrap64 (x9_1 + 1)) : Int).toNat)), (1), (x7_1), (x8_35), (wrap64 (x9_1 + 1)), cl, cl, cl, cl, cl, H', ⟨by have := HK1.out; have := HJ12.out; have := HJ15.out; have := HJ19.out; have := HJ33.out; have := HJ35.out; omega⟩, ⟨by (with_reducible repeat (first | apply Kd.R_alloc | apply Kd.R_drewN | apply Kd.R_drew)); exact HO_4.out⟩, ⟨bw⟩⟩
                       ·rw [if_neg c61] at H; exact absurd H (by simp)
                      ·rw [if_neg c60] at H; exact absurd H (by simp)
                     ·rw [if_neg c59] at H; exact absurd H (by simp)
                    ·rw [if_neg c58] at H; exact absurd H (by simp)
                   ·replace c57 := Bool.eq_false_iff.mpr c57; subst c57; have H1 : (if (bt a0 x9_1) = 34 then (bulletinref12_Scan.l0 kj35 a0 x4_15 x5_15 2 x7_1 x8_35 (wrap64 (x9_1 + 1))) else (if (bt a0 x9_1) = 40 then (bulletinref12_Scan.l0 kj35 a0 x4_15 x5_15 3 1 x8_35 (wrap64 (x9_1 + 1))) else ((bulletinref12_among.f kj35 (bt a0 x9_1) (⟨#[60, 62, 58, 59, 64, 44, 46]⟩ : ByteArray)).bind fun t423 => (if t423 = true then (if 0 ≤ x9_1 then (if x9_1 ≤ (wrap64 (x9_1 + 1)) then (if (wrap64 (x9_1 + 1)) ≤ (a0.size : Int) then (if x4_15.length < 5864062014805 then (bulletinref12_Scan.l0 kj35 a0 (x4_15 ++ [(⟨3, a0.extract (x9_1 : Int).toNat ((wrap64 (x9_1 + 1)) : Int).toNat⟩ : S109)]) x5_15 x6_15 x7_1 x8_35 (wrap64 (x9_1 + 1))) else (none)) else (none)) else (none)) else (none)) else (if (bt a0 x9_1) = 32 then (bulletinref12_Scan.l0 kj35 a0 x4_15 x5_15 x6_15 x7_1 x8_35 (wrap64 (x9_1 + 1))) else (if (bt a0 x9_1) = 9 then (bulletinref12_Scan.l0 kj35 a0 x4_15 x5_15 x6_15 x7_1 x8_35 (wrap64 (x9_1 + 1))) else (some (([] : List (S109)), 3)))))))) = some (r1, r2) := by rw [if_neg (show ¬ (false = true) by decide)] at H; exact H
                    clear H; have H := H1; clear H1
                    by_cases c62 : (bt a0 x9_1) = 34
                    ·rw [if_pos c62] at H; have c62b0 : ((bt a0 x9_1) == 34) = true := beq_iff_eq.mpr c62; have c62b1 : ((bt a0 x9_1) != 34) = false := bne_eq_false_iff_eq.mpr c62; clear c62; have H' := Aside0.mk H; clear H
                     as_aux_lemma =>
                      go_wp2_with (first | ((with_reducible refine gate_callee (f := 105) rfl ?_); refine goesL_ (some 119) rfl rfl Tryd.func105 (by kernel_rfl) rfl #[.int .u8 (bt a0 x9_1)] rfl am ?_; (with_reducible refine (bulletinref12_atomic.calls kj35 (bt a0 x9_1) false _ A56.out).mono ?_); rintro e w' ⟨rfl, ⟨nd, rfl⟩⟩; refine ⟨_, rfl, ?_⟩))
                      go_roundg kj35
                      case measure => have := HK1.out; have := HJ12.out; have := HJ15.out; have := HJ19.out; have := HJ33.out; have := HJ35.out; omega
                      case rel => exact ⟨(x4_15), (x5_15), (2), (x7_1), (x8_35), (wrap64 (x9_1 + 1)), cl, cl, cl, cl, cl, H', ⟨by have := HK1.out; have := HJ12.out; have := HJ15.out; have := HJ19.out; have := HJ33.out; have := HJ35.out; omega⟩, ⟨by (with_reducible repeat (first | apply Kd.R_alloc | apply Kd.R_drewN | apply Kd.R_drew)); exact HO_4.out⟩, ⟨bw⟩⟩
                    ·rw [if_neg c62] at H; have c62b0 : ((bt a0 x9_1) == 34) = false := beq_eq_false_iff_ne.mpr c62; have c62b1 : ((bt a0 x9_1) != 34) = true := bne_iff_ne.mpr c62
                     by_cases c63 : (bt a0 x9_1) = 40
                     ·rw [if_pos c63] at H; have c63b0 : ((bt a0 x9_1) == 40) = true := beq_iff_eq.mpr c63; have c63b1 : ((bt a0 x9_1) != 40) = false := bne_eq_false_iff_eq.mpr c63; clear c63; have H' := Aside0.mk H; clear H
                      as_aux_lemma =>
                       go_wp2_with (first | ((with_reducible refine gate_callee (f := 105) rfl ?_); refine goesL_ (some 119) rfl rfl Tryd.func105 (by kernel_rfl) rfl #[.int .u8 (bt a0 x9_1)] rfl am ?_; (with_reducible refine (bulletinref12_atomic.calls kj35 (bt a0 x9_1) false _ A56.out).mono ?_); rintro e w' ⟨rfl, ⟨nd, rfl⟩⟩; refine ⟨_, rfl, ?_⟩))
                       go_roundg kj35
                       case measure => have := HK1.out; have := HJ12.out; have := HJ15.out; have := HJ19.out; have := HJ33.out; have := HJ35.out; omega
                       case rel => exact ⟨(x4_15), (x5_15), (3), (1), (x8_35), (wrap64 (x9_1 + 1)), cl, cl, cl, cl, cl, H', ⟨by have := HK1.out; have := HJ12.out; have := HJ15.out; have := HJ19.out; have := HJ33.out; have := HJ35.out; omega⟩, ⟨by (with_reducible repeat (first | apply Kd.R_alloc | apply Kd.R_drewN | apply Kd.R_drew)); exact HO_4.out⟩, ⟨bw⟩⟩
                     ·rw [if_neg c63] at H; have c63b0 : ((bt a0 x9_1) == 40) = false := beq_eq_false_iff_ne.mpr c63; have c63b1 : ((bt a0 x9_1) != 40) = true := bne_iff_ne.mpr c63; replace H := Option.bind_eq_some_iff.mp H; obtain ⟨t423, A640, H⟩ := H; replace H : (if t423 = true then (if 0 ≤ x9_1 then (if x9_1 ≤ (wrap64 (x9_1 + 1)) then (if (wrap64 (x9_1 + 1)) ≤ (a0.size : Int) then (if x4_15.length < 5864062014805 then (bulletinref12_Scan.l0 kj35 a0 (x4_15 ++ [(⟨3, a0.extract (x9_1 : Int).toNat ((wrap64 (x9_1 + 1)) : Int).toNat⟩ : S109)]) x5_15 x6_15 x7_1 x8_35 (wrap64 (x9_1 + 1))) else (none)) else (none)) else (none)) else (none)) else (if (bt a0 x9_1) = 32 then (bulletinref12_Scan.l0 kj35 a0 x4_15 x5_15 x6_15 x7_1 x8_35 (wrap64 (x9_1 + 1))) else (if (bt a0 x9_1) = 9 then (bulletinref12_Scan.l0 kj35 a0 x4_15 x5_15 x6_15 x7_1 x8_35 (wrap64 (x9_1 + 1))) else (some (([] : List (S109)), 3))))) = some (r1, r2) := H; have A64 := Aside0.mk A640; clear A640
                      by_cases c65 : t423 = true
                      ·subst c65; have H1 : (if 0 ≤ x9_1 then (if x9_1 ≤ (wrap64 (x9_1 + 1)) then (if (wrap64 (x9_1 + 1)) ≤ (a0.size : Int) then (if x4_15.length < 5864062014805 then (bulletinref12_Scan.l0 kj35 a0 (x4_15 ++ [(⟨3, a0.extract (x9_1 : Int).toNat ((wrap64 (x9_1 + 1)) : Int).toNat⟩ : S109)]) x5_15 x6_15 x7_1 x8_35 (wrap64 (x9_1 + 1))) else (none)) else (none)) else (none)) else (none)) = some (r1, r2) := by rw [if_pos rfl] at H; exact H
                       clear H; have H := H1; clear H1
                       by_cases c66 : 0 ≤ x9_1
                       ·rw [if_pos c66] at H; have c66b0 := eq_true c66; have c66b1 : decide (0 ≤ x9_1) = true := decide_eq_true c66; clear c66
                        by_cases c67 : x9_1 ≤ (wrap64 (x9_1 + 1))
                        ·rw [if_pos c67] at H; have c67b0 := eq_true c67; have c67b1 : decide (x9_1 ≤ (wrap64 (x9_1 + 1))) = true := decide_eq_true c67
                         by_cases c68 : (wrap64 (x9_1 + 1)) ≤ (a0.size : Int)
                         ·rw [if_pos c68] at H; have c68b0 := eq_true c68; have c68b1 : decide ((wrap64 (x9_1 + 1)) ≤ (a0.size : Int)) = true := decide_eq_true c68
                          by_cases c69 : x4_15.length < 5864062014805
                          ·rw [if_pos c69] at H; have LMc69 := Aside0.mk c69; clear c69; obtain ⟨y424, hy424⟩ : ∃ y_ : List (S109), y_ = (x4_15 ++ [(⟨3, a0.extract (x9_1 : Int).toNat ((wrap64 (x9_1 + 1)) : Int).toNat⟩ : S109)]) := ⟨_, rfl⟩
                           replace H : (bulletinref12_Scan.l0 kj35 a0 y424 x5_15 x6_15 x7_1 x8_35 (wrap64 (x9_1 + 1))) = some (r1, r2) := by first | (rw [hy424]; with_reducible exact H) | (have H2_ := (Option.bind_some _ _).symm.trans H; rw [hy424]; with_reducible exact H2_) | (have H2_ := (Option.bind_some _ _).symm.trans H; with_reducible exact H2_) | with_reducible exact H | (rw [hy424]; exact H) | exact H
                           have Ny424 := Aside0.mk hy424; clear hy424; have H' := Aside0.mk H; clear H
                           as_aux_lemma =>
                            go_wp2_with (first | ((with_reducible refine gate_callee (f := 105) rfl ?_); refine goesL_ (some 119) rfl rfl Tryd.func105 (by kernel_rfl) rfl #[.int .u8 (bt a0 x9_1)] rfl am ?_; (with_reducible refine (bulletinref12_atomic.calls kj35 (bt a0 x9_1) false _ A56.out).mono ?_); rintro e w' ⟨rfl, ⟨nd, rfl⟩⟩; refine ⟨_, rfl, ?_⟩) | ((with_reducible refine gate_callee (f := 106) rfl ?_); refine goesL_ (some 132) rfl rfl Tryd.func106 (by kernel_rfl) rfl #[.int .u8 (bt a0 x9_1), .string (⟨#[60, 62, 58, 59, 64, 44, 46]⟩ : ByteArray)] rfl am ?_; (with_reducible refine (bulletinref12_among.calls kj35 (bt a0 x9_1) (⟨#[60, 62, 58, 59, 64, 44, 46]⟩ : ByteArray) true _ A64.out).mono ?_); rintro e w' ⟨rfl, ⟨nd, rfl⟩⟩; refine ⟨_, rfl, ?_⟩) | ((with_reducible refine gate_builtin (b := .append) (xs := #[.tmp 133, .tmp 140]) rfl ?_); (try (refine gate_guard (by rfl) ?_; dsimp only)); at_builtin; refine Kd.R_append k109 (w0 := w) w.heap.size rfl (.tmp 133) (.tmp 140) 105 109 (.agg #[(.int .i64 0), (.string ⟨#[]⟩)]) 24 rfl Tryd.underlying105 info109 rfl (by decide) (by omega) u4 x4_15 (⟨3, a0.extract (x9_1 : Int).toNat ((wrap64 (x9_1 + 1)) : Int).toNat⟩ : S109) [.int .i64 3, .string (a0.extract (x9_1 : Int).toNat ((wrap64 (x9_1 + 1)) : Int).toNat)] (fun _ => True) (fun _ => False) rfl rfl ?aP (fun _ hk => hk.elim) ?aF ?aO ?aB ?aS ?aL ?_; (case aP => exact k109_mkM _ _ _ (⟨3, a0.extract (x9_1 : Int).toNat ((wrap64 (x9_1 + 1)) : Int).toNat⟩ : S109)); (case aB => exact bw); (case aF => exact (fun _ _ => trivial)); (case aO => exact (ra HO_4.out)); (case aS => exact (below_size bw)); (case aL => have := LMc69.out; omega); intro v425 w70 ho hb hg hat; rw [← Ny424.out] at ho; have n0_ := Aside0.mk (hb); have n1_ := Aside0.mk (ho); clear HB; clear HO_4; have HB := n0_; have HO426 := n1_; clear n0_ n1_; clear ho hb hg hat))
                            go_roundg kj35
                            case measure => have := HK1.out; have := HJ12.out; have := HJ15.out; have := HJ19.out; have := HJ33.out; have := HJ35.out; omega
                            case rel => exact ⟨(y424), (x5_15), (x6_15), (x7_1), (x8_35), (wrap64 (x9_1 + 1)), cl, cl, cl, cl, cl, H', ⟨by have := HK1.out; have := HJ12.out; have := HJ15.out; have := HJ19.out; have := HJ33.out; have := HJ35.out; omega⟩, ⟨by (with_reducible repeat (first | apply Kd.R_alloc | apply Kd.R_drewN | apply Kd.R_drew)); exact HO426.out⟩, ⟨bw⟩⟩
                          ·rw [if_neg c69] at H; exact absurd H (by simp)
                         ·rw [if_neg c68] at H; exact absurd H (by simp)
                        ·rw [if_neg c67] at H; exact absurd H (by simp)
                       ·rw [if_neg c66] at H; exact absurd H (by simp)
                      ·replace c65 := Bool.eq_false_iff.mpr c65; subst c65; have H1 : (if (bt a0 x9_1) = 32 then (bulletinref12_Scan.l0 kj35 a0 x4_15 x5_15 x6_15 x7_1 x8_35 (wrap64 (x9_1 + 1))) else (if (bt a0 x9_1) = 9 then (bulletinref12_Scan.l0 kj35 a0 x4_15 x5_15 x6_15 x7_1 x8_35 (wrap64 (x9_1 + 1))) else (some (([] : List (S109)), 3)))) = some (r1, r2) := by rw [if_neg (show ¬ (false = true) by decide)] at H; exact H
                       clear H; have H := H1; clear H1
                       by_cases c71 : (bt a0 x9_1) = 32
                       ·rw [if_pos c71] at H; have c71b0 : ((bt a0 x9_1) == 32) = true := beq_iff_eq.mpr c71; have c71b1 : ((bt a0 x9_1) != 32) = false := bne_eq_false_iff_eq.mpr c71; clear c71; have H' := Aside0.mk H; clear H
                        as_aux_lemma =>
                         go_wp2_with (first | ((with_reducible refine gate_callee (f := 105) rfl ?_); refine goesL_ (some 119) rfl rfl Tryd.func105 (by kernel_rfl) rfl #[.int .u8 (bt a0 x9_1)] rfl am ?_; (with_reducible refine (bulletinref12_atomic.calls kj35 (bt a0 x9_1) false _ A56.out).mono ?_); rintro e w' ⟨rfl, ⟨nd, rfl⟩⟩; refine ⟨_, rfl, ?_⟩) | ((with_reducible refine gate_callee (f := 106) rfl ?_); refine goesL_ (some 132) rfl rfl Tryd.func106 (by kernel_rfl) rfl #[.int .u8 (bt a0 x9_1), .string (⟨#[60, 62, 58, 59, 64, 44, 46]⟩ : ByteArray)] rfl am ?_; (with_reducible refine (bulletinref12_among.calls kj35 (bt a0 x9_1) (⟨#[60, 62, 58, 59, 64, 44, 46]⟩ : ByteArray) false _ A64.out).mono ?_); rintro e w' ⟨rfl, ⟨nd, rfl⟩⟩; refine ⟨_, rfl, ?_⟩))
                         go_roundg kj35
                         case measure => have := HK1.out; have := HJ12.out; have := HJ15.out; have := HJ19.out; have := HJ33.out; have := HJ35.out; omega
                         case rel => exact ⟨(x4_15), (x5_15), (x6_15), (x7_1), (x8_35), (wrap64 (x9_1 + 1)), cl, cl, cl, cl, cl, H', ⟨by have := HK1.out; have := HJ12.out; have := HJ15.out; have := HJ19.out; have := HJ33.out; have := HJ35.out; omega⟩, ⟨by (with_reducible repeat (first | apply Kd.R_alloc | apply Kd.R_drewN | apply Kd.R_drew)); exact HO_4.out⟩, ⟨bw⟩⟩
                       ·rw [if_neg c71] at H; have c71b0 : ((bt a0 x9_1) == 32) = false := beq_eq_false_iff_ne.mpr c71; have c71b1 : ((bt a0 x9_1) != 32) = true := bne_iff_ne.mpr c71
                        by_cases c72 : (bt a0 x9_1) = 9
                        ·rw [if_pos c72] at H; have c72b0 : ((bt a0 x9_1) == 9) = true := beq_iff_eq.mpr c72; have c72b1 : ((bt a0 x9_1) != 9) = false := bne_eq_false_iff_eq.mpr c72; clear c72; have H' := Aside0.mk H; clear H
                         as_aux_lemma =>
                          go_wp2_with (first | ((with_reducible refine gate_callee (f := 105) rfl ?_); refine goesL_ (some 119) rfl rfl Tryd.func105 (by kernel_rfl) rfl #[.int .u8 (bt a0 x9_1)] rfl am ?_; (with_reducible refine (bulletinref12_atomic.calls kj35 (bt a0 x9_1) false _ A56.out).mono ?_); rintro e w' ⟨rfl, ⟨nd, rfl⟩⟩; refine ⟨_, rfl, ?_⟩) | ((with_reducible refine gate_callee (f := 106) rfl ?_); refine goesL_ (some 132) rfl rfl Tryd.func106 (by kernel_rfl) rfl #[.int .u8 (bt a0 x9_1), .string (⟨#[60, 62, 58, 59, 64, 44, 46]⟩ : ByteArray)] rfl am ?_; (with_reducible refine (bulletinref12_among.calls kj35 (bt a0 x9_1) (⟨#[60, 62, 58, 59, 64, 44, 46]⟩ : ByteArray) false _ A64.out).mono ?_); rintro e w' ⟨rfl, ⟨nd, rfl⟩⟩; refine ⟨_, rfl, ?_⟩))
                          go_roundg kj35
                          case measure => have := HK1.out; have := HJ12.out; have := HJ15.out; have := HJ19.out; have := HJ33.out; have := HJ35.out; omega
                          case rel => exact ⟨(x4_15), (x5_15), (x6_15), (x7_1), (x8_35), (wrap64 (x9_1 + 1)), cl, cl, cl, cl, cl, H', ⟨by have := HK1.out; have := HJ12.out; have := HJ15.out; have := HJ19.out; have := HJ33.out; have := HJ35.out; omega⟩, ⟨by (with_reducible repeat (first | apply Kd.R_alloc | apply Kd.R_drewN | apply Kd.R_drew)); exact HO_4.out⟩, ⟨bw⟩⟩
                        ·rw [if_neg c72] at H; have c72b0 : ((bt a0 x9_1) == 9) = false := beq_eq_false_iff_ne.mpr c72; have c72b1 : ((bt a0 x9_1) != 9) = true := bne_iff_ne.mpr c72; simp only [Option.some.injEq, Prod.mk.injEq] at H; obtain ⟨rfl, rfl⟩ := H
                         as_aux_lemma =>
                          go_wp2_with (first | ((with_reducible refine gate_callee (f := 105) rfl ?_); refine goesL_ (some 119) rfl rfl Tryd.func105 (by kernel_rfl) rfl #[.int .u8 (bt a0 x9_1)] rfl am ?_; (with_reducible refine (bulletinref12_atomic.calls kj35 (bt a0 x9_1) false _ A56.out).mono ?_); rintro e w' ⟨rfl, ⟨nd, rfl⟩⟩; refine ⟨_, rfl, ?_⟩) | ((with_reducible refine gate_callee (f := 106) rfl ?_); refine goesL_ (some 132) rfl rfl Tryd.func106 (by kernel_rfl) rfl #[.int .u8 (bt a0 x9_1), .string (⟨#[60, 62, 58, 59, 64, 44, 46]⟩ : ByteArray)] rfl am ?_; (with_reducible refine (bulletinref12_among.calls kj35 (bt a0 x9_1) (⟨#[60, 62, 58, 59, 64, 44, 46]⟩ : ByteArray) false _ A64.out).mono ?_); rintro e w' ⟨rfl, ⟨nd, rfl⟩⟩; refine ⟨_, rfl, ?_⟩))
                          go_ret2
                          exact ⟨_, ew, by first | exact Kd.R_nil _ _ _ _ _ | exact Kd.N_nil _ _ _ _ _ | exact Kd.V_nil _ _ _ _ _ | exact Kd.Q_nil _ _ _ _ _ | exact Kd.S_nil _ _ _ _ _, bw⟩
    ·rw [if_neg c3] at H; exact absurd H (by simp)
   ·rw [if_neg c2] at H; have c2b0 : decide (x9_1 < (a0.size : Int)) = false := decide_eq_false c2; clear c2
    by_cases c73 : x6_1 ≥ 2
    ·rw [if_pos c73] at H; have c73b0 : decide (2 ≤ x6_1) = true := decide_eq_true c73; clear c73; simp only [Option.some.injEq, Prod.mk.injEq] at H; obtain ⟨rfl, rfl⟩ := H
     as_aux_lemma =>
      go_wp2
      go_ret2
      exact ⟨_, ew, by first | exact Kd.R_nil _ _ _ _ _ | exact Kd.N_nil _ _ _ _ _ | exact Kd.V_nil _ _ _ _ _ | exact Kd.Q_nil _ _ _ _ _ | exact Kd.S_nil _ _ _ _ _, bw⟩
    ·rw [if_neg c73] at H; have c73b0 : decide (2 ≤ x6_1) = false := decide_eq_false c73; clear c73
     by_cases c74 : x6_1 = 1
     ·rw [if_pos c74] at H; have c74b0 : (x6_1 == 1) = true := beq_iff_eq.mpr c74; have c74b1 : (x6_1 != 1) = false := bne_eq_false_iff_eq.mpr c74; clear c74
      by_cases c75 : x4_1.length < 5864062014805
      ·rw [if_pos c75] at H; have LMc75 := Aside0.mk c75; clear c75; obtain ⟨y427, hy427⟩ : ∃ y_ : List (S109), y_ = (x4_1 ++ [(⟨1, x5_1⟩ : S109)]) := ⟨_, rfl⟩
       replace H : (some (y427, 0)) = some (r1, r2) := by first | (rw [hy427]; with_reducible exact H) | (have H2_ := (Option.bind_some _ _).symm.trans H; rw [hy427]; with_reducible exact H2_) | (have H2_ := (Option.bind_some _ _).symm.trans H; with_reducible exact H2_) | with_reducible exact H | (rw [hy427]; exact H) | exact H
       have Ny427 := Aside0.mk hy427; clear hy427; simp only [Option.some.injEq, Prod.mk.injEq] at H; obtain ⟨rfl, rfl⟩ := H
       as_aux_lemma =>
        go_wp2_with (first | ((with_reducible refine gate_builtin (b := .append) (xs := #[.tmp 152, .tmp 155]) rfl ?_); (try (refine gate_guard (by rfl) ?_; dsimp only)); at_builtin; refine Kd.R_append k109 (w0 := w) w.heap.size rfl (.tmp 152) (.tmp 155) 105 109 (.agg #[(.int .i64 0), (.string ⟨#[]⟩)]) 24 rfl Tryd.underlying105 info109 rfl (by decide) (by omega) u4 x4_1 (⟨1, x5_1⟩ : S109) [.int .i64 1, .string x5_1] (fun _ => True) (fun _ => False) rfl rfl ?aP (fun _ hk => hk.elim) ?aF ?aO ?aB ?aS ?aL ?_; (case aP => exact k109_mkM _ _ _ (⟨1, x5_1⟩ : S109)); (case aB => exact bw); (case aF => exact (fun _ _ => trivial)); (case aO => exact (ra HO_4.out)); (case aS => exact (below_size bw)); (case aL => have := LMc75.out; omega); intro v428 w76 ho hb hg hat; rw [← Ny427.out] at ho; have n0_ := Aside0.mk (hb); have n1_ := Aside0.mk (ho); clear HB; clear HO_4; have HB := n0_; have HO429 := n1_; clear n0_ n1_; clear ho hb hg hat))
        go_ret2
        exact ⟨_, ew, by (with_reducible repeat (first | apply Kd.R_alloc | apply Kd.R_drewN | apply Kd.R_drew)); exact HO429.out, bw⟩
      ·rw [if_neg c75] at H; exact absurd H (by simp)
     ·rw [if_neg c74] at H; have c74b0 : (x6_1 == 1) = false := beq_eq_false_iff_ne.mpr c74; have c74b1 : (x6_1 != 1) = true := bne_iff_ne.mpr c74; simp only [Option.some.injEq, Prod.mk.injEq] at H; obtain ⟨rfl, rfl⟩ := H
      as_aux_lemma =>
       go_wp2
       go_ret2
       exact ⟨_, ew, by (with_reducible repeat (first | apply Kd.R_alloc | apply Kd.R_drewN | apply Kd.R_drew)); exact HO_4.out, bw⟩

end Go.Proofs.YtoikneogdbdplaaDoor.Fn
namespace Go.Proofs.YtoikneogdbdplaaDoor.Fn
open Go.RowKit Go.Proofs.YtoikneogdbdplaaDoorW.PrintWords Go.Proofs.YtoikneogdbdplaaDoorW.PrintLast Go.Proofs.YtoikneogdbdplaaDoorW.PrintMore
attribute [local go_sem] max2_int min2_int max_two min_two max_three min_three max_four min_four
set_option linter.unusedVariables false
set_option linter.unusedSimpArgs false

def bulletinref13_Split.l0 : Nat → ByteArray → Int → List ByteArray → ByteArray → Int → Option (List ByteArray)
 | 0, _, _, _, _, _ => none
 | k + 1, x0, x1, x5, x6, x7 => if x7 < (x0.size : Int) then (if 0 ≤ x7 then (if (bt x0 x7) = x1 then (if x5.length < 8796093022208 then (bulletinref13_Split.l0 k x0 x1 (x5 ++ [x6]) (⟨#[]⟩ : ByteArray) (wrap64 (x7 + 1))) else (none)) else (if x7 ≤ (wrap64 (x7 + 1)) then (if (wrap64 (x7 + 1)) ≤ (x0.size : Int) then (if x6.size + (x0.extract (x7 : Int).toNat ((wrap64 (x7 + 1)) : Int).toNat).size ≤ 9223372036854775807 then (bulletinref13_Split.l0 k x0 x1 x5 (x6 ++ (x0.extract (x7 : Int).toNat ((wrap64 (x7 + 1)) : Int).toNat)) (wrap64 (x7 + 1))) else (none)) else (none)) else (none))) else (none)) else (if x5.length < 8796093022208 then (some (x5 ++ [x6])) else (none))
def bulletinref13_Split.f (k : Nat) (a0 : ByteArray) (a1 : Int) : Option (List ByteArray) := bulletinref13_Split.l0 k a0 a1 ([] : List ByteArray) (⟨#[]⟩ : ByteArray) 0
set_option maxHeartbeats 8000000 in
set_option maxRecDepth 100000 in
theorem bulletinref13_Split.calls (k : Nat) (a0 : ByteArray) (a1 : Int) (r : List ByteArray) (w : World) (h : bulletinref13_Split.f k a0 a1 = some r) :
  Calls Tryd.prog 70 #[.string a0, .int .u8 a1] w fun e w' => ∃ v0_ : Value, e = .returned (v0_) ∧ Kd.R Kd.string 9 w' w.heap.size (fun _ => True) v0_ r ∧ Below w.heap.size w w' := by
 have HB := Aside0.mk (Below.refl w.heap.size w); have H : (bulletinref13_Split.l0 k a0 a1 ([] : List ByteArray) (⟨#[]⟩ : ByteArray) 0) = some r := h; clear h; have H' := Aside0.mk H; clear H
 go_enter Tryd.func70, Tryd.ntmps70
 go_wp2
 go_loopg [5, 6, 7] k (fun kq v5 v6 v7 w' => ∃ (x5_1 : List ByteArray) (x6_1 : ByteArray) (x7_1 : Int), v6 = .string x6_1 ∧ v7 = .int .i64 x7_1 ∧ Aside0 (bulletinref13_Split.l0 kq a0 a1 x5_1 x6_1 x7_1 = some r) ∧ Aside0 (kq ≤ k) ∧ Aside0 (Kd.R Kd.string 9 w' w.heap.size (fun _ => True) v5 x5_1) ∧ Aside0 (Below w.heap.size w w'))
 case atStart => exact ⟨(([] : List ByteArray)), ((⟨#[]⟩ : ByteArray)), (0), cl, cl, H', ⟨Nat.le_refl _⟩, ⟨by first | exact Kd.R_nil _ _ _ _ _ | exact Kd.N_nil _ _ _ _ _ | exact Kd.V_nil _ _ _ _ _ | exact Kd.Q_nil _ _ _ _ _ | exact Kd.S_nil _ _ _ _ _⟩, ⟨bw⟩⟩
 case round =>
  clear H'
  try clear p2
  obtain ⟨x5_1, x6_1, x7_1, rfl, rfl, HA, HK1, HO_5, HB⟩ := hrel; cases gk with
  | zero => exact absurd HA.out (by simp [bulletinref13_Split.l0])
  | succ k1 =>
   have H := HA.out; clear HA; simp only [bulletinref13_Split.l0] at H
   by_cases c3 : x7_1 < (a0.size : Int)
   ·rw [if_pos c3] at H; have c3b0 : decide (x7_1 < (a0.size : Int)) = true := decide_eq_true c3; clear c3
    by_cases c4 : 0 ≤ x7_1
    ·rw [if_pos c4] at H; have c4b0 : decide (0 ≤ x7_1) = true := decide_eq_true c4; clear c4
     by_cases c6 : (bt a0 x7_1) = a1
     ·rw [if_pos c6] at H; have c6b0 : ((bt a0 x7_1) == a1) = true := beq_iff_eq.mpr c6; have c6b1 : ((bt a0 x7_1) != a1) = false := bne_eq_false_iff_eq.mpr c6; clear c6
      by_cases c7 : x5_1.length < 8796093022208
      ·rw [if_pos c7] at H; have LMc7 := Aside0.mk c7; clear c7; obtain ⟨y431, hy431⟩ : ∃ y_ : List ByteArray, y_ = (x5_1 ++ [x6_1]) := ⟨_, rfl⟩
       replace H : (bulletinref13_Split.l0 k1 a0 a1 y431 (⟨#[]⟩ : ByteArray) (wrap64 (x7_1 + 1))) = some r := by first | (rw [hy431]; with_reducible exact H) | (have H2_ := (Option.bind_some _ _).symm.trans H; rw [hy431]; with_reducible exact H2_) | (have H2_ := (Option.bind_some _ _).symm.trans H; with_reducible exact H2_) | with_reducible exact H | (rw [hy431]; exact H) | exact H
       have Ny431 := Aside0.mk hy431; clear hy431; have H' := Aside0.mk H; clear H; have p5 : 0 ≤ (x7_1 : Int) := od; have q5 : x7_1 < (a0.size : Int) := od; have hx5 := bt_at a0 x7_1; replace p5 := eq_true p5; replace q5 := eq_true q5
       go_wp2_with (first | ((with_reducible refine gate_builtin (b := .append) (xs := #[.tmp 19, .tmp 21]) rfl ?_); at_builtin; refine Kd.R_append Kd.string (w0 := w) w.heap.size rfl (.tmp 19) (.tmp 21) 32 9 (.string ⟨#[]⟩) 16 rfl Tryd.underlying32 info9 rfl (by decide) (by omega) u5 x5_1 x6_1 [.string x6_1] (fun _ => True) (fun _ => False) rfl rfl ?aP (fun _ hk => hk.elim) ?aF ?aO ?aB ?aS ?aL ?_; (case aP => exact rfl); (case aB => exact bw); (case aF => exact (fun _ _ => trivial)); (case aO => exact (ra HO_5.out)); (case aS => exact (below_size bw)); (case aL => have := LMc7.out; omega); intro v432 w8 ho hb hg hat; rw [← Ny431.out] at ho; have n0_ := Aside0.mk (hb); have n1_ := Aside0.mk (ho); clear HB; clear HO_5; have HB := n0_; have HO433 := n1_; clear n0_ n1_; clear ho hb hg hat))
       go_roundg k1
       case measure => have := HK1.out; omega
       case rel => exact ⟨(y431), ((⟨#[]⟩ : ByteArray)), (wrap64 (x7_1 + 1)), cl, cl, H', ⟨by have := HK1.out; omega⟩, ⟨by (with_reducible repeat (first | apply Kd.R_alloc | apply Kd.R_drewN | apply Kd.R_drew)); exact HO433.out⟩, ⟨bw⟩⟩
      ·rw [if_neg c7] at H; exact absurd H (by simp)
     ·rw [if_neg c6] at H; have c6b0 : ((bt a0 x7_1) == a1) = false := beq_eq_false_iff_ne.mpr c6; have c6b1 : ((bt a0 x7_1) != a1) = true := bne_iff_ne.mpr c6; have c9b0 := eq_true (od : 0 ≤ x7_1)
      by_cases c10 : x7_1 ≤ (wrap64 (x7_1 + 1))
      ·rw [if_pos c10] at H; have c10b0 := eq_true c10; have c10b1 : decide (x7_1 ≤ (wrap64 (x7_1 + 1))) = true := decide_eq_true c10
       by_cases c11 : (wrap64 (x7_1 + 1)) ≤ (a0.size : Int)
       ·rw [if_pos c11] at H; have c11b0 := eq_true c11; have c11b1 : decide ((wrap64 (x7_1 + 1)) ≤ (a0.size : Int)) = true := decide_eq_true c11
        by_cases c12 : x6_1.size + (a0.extract (x7_1 : Int).toNat ((wrap64 (x7_1 + 1)) : Int).toNat).size ≤ 9223372036854775807
        ·rw [if_pos c12] at H; have c12b0 := eq_true c12; have c12b1 : decide (x6_1.size + (a0.extract (x7_1 : Int).toNat ((wrap64 (x7_1 + 1)) : Int).toNat).size ≤ 9223372036854775807) = true := decide_eq_true c12
         try have c12b2 : (9223372036854775807 < x6_1.size + (a0.extract (x7_1 : Int).toNat ((wrap64 (x7_1 + 1)) : Int).toNat).size) = False := eq_false (Nat.not_lt.2 c12)
         try (have c12b3 := c12; simp only [ByteArray.size_append, size_lit, ByteArray.size_extract, List.size_toArray, List.length_cons, List.length_nil, Nat.zero_add, Nat.reduceAdd] at c12b3; have c12b4 := eq_false (Nat.not_lt.2 c12b3))
         have H' := Aside0.mk H; clear H; have p5 : 0 ≤ (x7_1 : Int) := od; have q5 : x7_1 < (a0.size : Int) := od; have hx5 := bt_at a0 x7_1; replace p5 := eq_true p5; replace q5 := eq_true q5
         go_wp2
         go_roundg k1
         case measure => have := HK1.out; omega
         case rel => exact ⟨(x5_1), (x6_1 ++ (a0.extract (x7_1 : Int).toNat ((wrap64 (x7_1 + 1)) : Int).toNat)), (wrap64 (x7_1 + 1)), cl, cl, H', ⟨by have := HK1.out; omega⟩, ⟨by (with_reducible repeat (first | apply Kd.R_alloc | apply Kd.R_drewN | apply Kd.R_drew)); exact HO_5.out⟩, ⟨bw⟩⟩
        ·rw [if_neg c12] at H; exact absurd H (by simp)
       ·rw [if_neg c11] at H; exact absurd H (by simp)
      ·rw [if_neg c10] at H; exact absurd H (by simp)
    ·rw [if_neg c4] at H; exact absurd H (by simp)
   ·rw [if_neg c3] at H; have c3b0 : decide (x7_1 < (a0.size : Int)) = false := decide_eq_false c3; clear c3
    by_cases c13 : x5_1.length < 8796093022208
    ·rw [if_pos c13] at H; have LMc13 := Aside0.mk c13; clear c13; obtain ⟨y434, hy434⟩ : ∃ y_ : List ByteArray, y_ = (x5_1 ++ [x6_1]) := ⟨_, rfl⟩
     replace H : (some y434) = some r := by first | (rw [hy434]; with_reducible exact H) | (have H2_ := (Option.bind_some _ _).symm.trans H; rw [hy434]; with_reducible exact H2_) | (have H2_ := (Option.bind_some _ _).symm.trans H; with_reducible exact H2_) | with_reducible exact H | (rw [hy434]; exact H) | exact H
     have Ny434 := Aside0.mk hy434; clear hy434; obtain rfl := Option.some.inj H
     go_wp2_with (first | ((with_reducible refine gate_builtin (b := .append) (xs := #[.tmp 30, .tmp 32]) rfl ?_); at_builtin; refine Kd.R_append Kd.string (w0 := w) w.heap.size rfl (.tmp 30) (.tmp 32) 32 9 (.string ⟨#[]⟩) 16 rfl Tryd.underlying32 info9 rfl (by decide) (by omega) u5 x5_1 x6_1 [.string x6_1] (fun _ => True) (fun _ => False) rfl rfl ?aP (fun _ hk => hk.elim) ?aF ?aO ?aB ?aS ?aL ?_; (case aP => exact rfl); (case aB => exact bw); (case aF => exact (fun _ _ => trivial)); (case aO => exact (ra HO_5.out)); (case aS => exact (below_size bw)); (case aL => have := LMc13.out; omega); intro v435 w14 ho hb hg hat; rw [← Ny434.out] at ho; have n0_ := Aside0.mk (hb); have n1_ := Aside0.mk (ho); clear HB; clear HO_5; have HB := n0_; have HO436 := n1_; clear n0_ n1_; clear ho hb hg hat))
     go_ret
     exact ⟨_, ew, by (with_reducible repeat (first | apply Kd.R_alloc | apply Kd.R_drewN | apply Kd.R_drew)); exact HO436.out, bw⟩
    ·rw [if_neg c13] at H; exact absurd H (by simp)

end Go.Proofs.YtoikneogdbdplaaDoor.Fn
namespace Go.Proofs.YtoikneogdbdplaaDoor.Fn
open Go.RowKit Go.Proofs.YtoikneogdbdplaaDoorW.PrintWords Go.Proofs.YtoikneogdbdplaaDoorW.PrintLast Go.Proofs.YtoikneogdbdplaaDoorW.PrintMore
attribute [local go_sem] max2_int min2_int max_two min_two max_three min_three max_four min_four
set_option linter.unusedVariables false
set_option linter.unusedSimpArgs false

def bulletinref20_has.f (k : Nat) (a0 : ByteArray) (a1 : Int) : Option (Int) := (bulletinref13_Split.f k a0 a1).bind fun t437 => (some (wrap64 ((t437.length : Int) - 1)))
set_option maxHeartbeats 8000000 in
set_option maxRecDepth 100000 in
theorem bulletinref20_has.calls (k : Nat) (a0 : ByteArray) (a1 : Int) (r : Int) (w : World) (h : bulletinref20_has.f k a0 a1 = some r) :
  Calls Tryd.prog 69 #[.string a0, .int .u8 a1] w fun e w' => e = .returned (.int .i64 r) ∧ Below w.heap.size w w' := by
 have HB := Aside0.mk (Below.refl w.heap.size w); have H : ((bulletinref13_Split.f k a0 a1).bind fun t437 => (some (wrap64 ((t437.length : Int) - 1)))) = some r := h; clear h; replace H := Option.bind_eq_some_iff.mp H; obtain ⟨t437, A30, H⟩ := H; replace H : (some (wrap64 ((t437.length : Int) - 1))) = some r := H; have A3 := Aside0.mk A30; clear A30; obtain rfl := Option.some.inj H
 go_enter Tryd.func69, Tryd.ntmps69
 go_wp2_with (first | ((with_reducible refine gate_callee (f := 70) rfl ?_); refine goesL_ (some 7) rfl rfl Tryd.func70 (by kernel_rfl) rfl #[.string a0, .int .u8 a1] rfl am ?_; (with_reducible refine (bulletinref13_Split.calls k a0 a1 t437 _ A3.out).mono ?_); rintro e w4 ⟨v438, rfl, ho0, hb⟩; refine ⟨_, rfl, ?_⟩; have n0_ := Aside0.mk (Kd.R_lower ho0 (below_size bw)); have n1_ := Aside0.mk (below_step bw hb); clear HB; have HO439 := n0_; have HB := n1_; clear n0_ n1_; (try clear hb); (try clear hb2); (try clear hk); (try clear hi); (try clear ho0); obtain ⟨Ao5, co5, eo5⟩ := Kd.R_slice HO439.out; subst eo5))
 go_ret
 exact ⟨ew, bw⟩

end Go.Proofs.YtoikneogdbdplaaDoor.Fn
