/- The dock's calls, walked: Down, Arm, Grow, Safe, Sync, Remove, Read. -/
import Derived.Test.YtoimpjmoikjibaaDkC
namespace Go.Proofs.Ytoimpjmoikjibaa.Dk
open Go Go.RowKit Go.ChangeMaps Go.Proofs.Ytoimpjmoikjibaa.IMap Go.Proofs.YtoimpjmoikjibaaW.PrintWords Go.Proofs.YtoimpjmoikjibaaW.PrintLast Go.Proofs.YtoimpjmoikjibaaW.PrintMore
set_option linter.unusedVariables false
set_option linter.unusedSimpArgs false
variable (w : World) (g : Nat) (S : Nat → Prop) (s : DS)
set_option maxHeartbeats 4000000 in
set_option maxRecDepth 20000 in
theorem Down_T (h : Dk w g S s) : Calls Try.prog 21 #[.pointer (some ⟨g, 0, none⟩)] w fun e w' => e = .returned (.bool s.down) ∧ w = w' := by
  obtain ⟨bm, es, h⟩ := h
  have hc3 := (blk_cell h.gc) 3
  clear h
  go_enter Try.func21, Try.ntmps21
  go_wp2
  go_ret
  exact ⟨rfl, rfl⟩
theorem ok_arm {s : DS} (h : OK s) {n : Int} (h1 : n < 9223372036854775808) : OK (arm s n) := { h with left0 := (by show -1 ≤ max n (-1); omega), left1 := (by show max n (-1) < _; omega) }
theorem ok_grow {s : DS} (h : OK s) (n : Int) : OK (grow s n) := { h with cap0 := (by show 0 ≤ min (max n 0) 16777216; omega), cap1 := (by show min (max n 0) 16777216 ≤ _; omega) }
set_option maxHeartbeats 4000000 in
set_option maxRecDepth 20000 in
theorem Arm_T (n : Int) (h : Dk w g S s) (h1 : n < 9223372036854775808) : Calls Try.prog 22 #[.pointer (some ⟨g, 0, none⟩), .int .i64 n] w fun e w' => e = .returned (.tuple #[]) ∧ Dk w' g S (arm s n) ∧ At1 g w w' := by
  obtain ⟨bm, es, h⟩ := h
  have HI := Aside0.mk h
  have HG := Aside0.mk h.gc
  have HK := Aside0.mk (ok_arm h.ok h1)
  have hc2 := (blk_cell h.gc) 2
  have hz2 := free_of h.gc 2
  clear h
  go_enter Try.func22, Try.ntmps22
  go_wp2
  all_goals
    go_end0
    refine ⟨rfl, ⟨bm, es, HI.out.setG ?_ (fun k hk => Below.heap_setCell w ⟨g, 2, none⟩ _ k hk) rfl HK.out⟩, At1.set _ _ _ _⟩
    rw [box_set (o := 2) HG.out _]
    simp [arm]
    omega
set_option maxHeartbeats 4000000 in
set_option maxRecDepth 20000 in
theorem Grow_T (n : Int) (h : Dk w g S s) : Calls Try.prog 53 #[.pointer (some ⟨g, 0, none⟩), .int .i64 n] w fun e w' => e = .returned (.tuple #[]) ∧ Dk w' g S (grow s n) ∧ At1 g w w' := by
  obtain ⟨bm, es, h⟩ := h
  have HI := Aside0.mk h
  have HG := Aside0.mk h.gc
  have HK := Aside0.mk (ok_grow h.ok n)
  have hc1 := (blk_cell h.gc) 1
  have hz1 := free_of h.gc 1
  clear h
  go_enter Try.func53, Try.ntmps53
  go_wp2
  all_goals
    go_end0
    refine ⟨rfl, ⟨bm, es, HI.out.setG ?_ (fun k hk => Below.heap_setCell w ⟨g, 1, none⟩ _ k hk) rfl HK.out⟩, At1.set _ _ _ _⟩
    rw [box_set (o := 1) HG.out _]
    simp [grow]
    omega
def safeOf (s : DS) (k : Int) : Nat := ((get s.M k).getD ([], 0)).2
set_option maxHeartbeats 4000000 in
set_option maxRecDepth 20000 in
theorem Safe_T (k : Int) (h : Dk w g S s) : Calls Try.prog 20 #[.pointer (some ⟨g, 0, none⟩), .int .i64 k] w fun e w' => e = .returned (.int .i64 (safeOf s k : Int)) ∧ w = w' := by
  obtain ⟨bm, es, h⟩ := h
  have hc0 := (blk_cell h.gc) 0
  have hl := look_I0 w g S s h k
  have hm := h.mir k
  unfold safeOf
  cases hq : get es k with
  | none =>
    rw [hq] at hl hm
    rw [hm]
    clear h hm hq
    go_enter Try.func20, Try.ntmps20
    go_wp2
    go_ret
    exact ⟨rfl, rfl⟩
  | some x =>
    have hf := h.fc _ (get_mem hq)
    have hf1 := (blk_cell hf) 1
    rw [hq] at hl hm
    rw [hm]
    simp only [Option.map_some, Option.getD_some, Ent.ptr] at hl ⊢
    clear h hm hq hf
    go_enter Try.func20, Try.ntmps20
    go_wp2
    go_ret
    exact ⟨rfl, rfl⟩
/-- What a call that may turn the dock comes to. -/
def Turned (w : World) (g : Nat) (S : Nat → Prop) (r : Int × DS) (e : Ending) (w' : World) : Prop := e = .returned (.int .i64 r.1) ∧ Dk w' g (Fr S w w') r.2 ∧ Chg S w w'
theorem find_bad {bm : Nat} {es : List (Int × Ent)} (k : Int) (h : DkI w g S s bm es) (hn : findE s k ≠ 0) : Calls Try.prog 45 #[.pointer (some ⟨g, 0, none⟩), .int .i64 k] w fun e w' => e = .returned (.tuple #[.pointer none, .int .i64 (findE s k)]) ∧ w = w' := by
  have := find_I w g S s bm es k h
  rwa [if_neg hn] at this
theorem find_good {bm : Nat} {es : List (Int × Ent)} (k : Int) (x : Ent) (h : DkI w g S s bm es) (h0 : findE s k = 0) (hx : get es k = some x) : Calls Try.prog 45 #[.pointer (some ⟨g, 0, none⟩), .int .i64 k] w fun e w' => e = .returned (.tuple #[.pointer (some ⟨x.f, 0, none⟩), .int .i64 0]) ∧ w = w' := by
  have := find_I w g S s bm es k h
  rwa [h0, if_pos rfl, hx] at this
theorem Fr.of {S : Nat → Prop} {w w' : World} (k : Nat) (h : S k) : Fr S w w' k := .inl h
set_option maxHeartbeats 4000000 in
set_option maxRecDepth 20000 in
theorem Sync_T (k : Int) (h : Dk w g S s) : Calls Try.prog 17 #[.pointer (some ⟨g, 0, none⟩), .int .i64 k] w (Turned w g S (syn s k)) := by
  obtain ⟨bm, es, h⟩ := h
  have HI := Aside0.mk h
  rcases findE_cases h k with ⟨h0, hd, ⟨f, v, b, n⟩, hge, hgm⟩ | hn
  · have K := Aside0.mk (find_good w g S s k _ h h0 hge)
    have K2 := Aside0.mk (step_I w g S s bm es h)
    dsimp only at K hgm
    obtain ⟨D, hD⟩ : ∃ d, (stepS s).down = d := ⟨_, rfl⟩
    rw [hD] at K2
    have H0 := Aside0.mk h0
    have HD := Aside0.mk hD
    have HGE := Aside0.mk hge
    have HGM := Aside0.mk hgm
    clear h h0 hd hge hgm hD
    go_enter Try.func17, Try.ntmps17
    go_wp2_with (fail)
    refine K.out.mono ?_
    rintro e0 w0 ⟨rfl, rfl⟩
    go_wp2_with (fail)
    refine K2.out.mono ?_
    rintro e1 w1 ⟨rfl, hi, ha⟩
    have HI1 := Aside0.mk hi
    have HA := Aside0.mk ha
    have hf := hi.fc _ (get_mem HGE.out)
    dsimp only at hf
    have hr := hi.fb _ (get_mem HGE.out)
    dsimp only at hr
    obtain ⟨A, c, rfl, _, _, _⟩ := hr.reads
    have hf0 := (blk_cell hf) 0
    have hf1 := (blk_cell hf) 1
    have hz1 := free_of hf 1
    have HF := Aside0.mk hf
    clear hi ha hf hr K K2
    cases D with
    | true =>
      go_wp2
      go_ret
      unfold Turned syn
      rw [if_neg (by rw [H0.out]; simp), if_pos HD.out]
      exact ⟨rfl, ⟨bm, es, HI1.out.mono Fr.of⟩, HA.out.chg HI.out.sg⟩
    | false =>
      go_wp2
      go_ret
      unfold Turned syn
      rw [if_neg (by rw [H0.out]; simp), if_neg (by rw [HD.out]; simp), HGM.out]
      have hmem := get_mem HGE.out
      have hA1 := At1.set w1 f 1 (.int .i64 (b.length : Int))
      refine ⟨rfl, ⟨bm, put es k ⟨f, .slice A b.length c, b, b.length⟩, ?_⟩, (HA.out.chg HI.out.sg).trans (hA1.chg (HI.out.fs _ hmem).1)⟩
      refine HI1.out.put k ⟨f, .slice A b.length c, b, b.length⟩ Fr.of ((hA1.2.2 g (fun e => (HI1.out.ne_f hmem).1 e.symm)).trans HI1.out.gc) ?_ (box_set (o := 1) HF.out _) ?_ ⟨.inl (HI.out.fs _ hmem).1, fun b hb => .inl ((HI.out.fs _ hmem).2 b hb)⟩ (fun q hq hne => ?_) (fun q hq hne => apart_of (e := ⟨f, .slice A b.length c, b, n⟩) rfl rfl (HI1.out.apart hmem hq (fun e => hne e.symm))) (by rw [(stepS_M s).1]; rfl) ?_
      · rw [vals_put_same (e' := ⟨f, .slice A b.length c, b, b.length⟩) HGE.out rfl]
        exact HI1.out.im.move (hA1.2.2 bm (fun e => (HI1.out.ne_f hmem).2 e.symm))
      · exact (HI1.out.fb _ hmem).move fun j hj => hA1.2.2 j (HI1.out.ne_row hmem hmem hj).2.2
      · refine ⟨hA1.2.2 _ (fun e => (HI1.out.apart hmem hq (fun e => hne e.symm)).1 e.symm), fun j hj => hA1.2.2 j (HI1.out.ne_row hq hmem hj).2.2⟩
      · have hok := HI1.out.ok
        have hz := size_ins hok.asc k (b, b.length)
        rw [(stepS_M s).1, HGM.out] at hz
        dsimp only [Option.getD_some] at hz
        have hsz := hok.size
        rw [(stepS_M s).1] at hsz
        have := ok_ins hok k b b.length (ok_name HI.out.ok HGM.out) (Nat.le_refl _) (by rw [(stepS_M s).1]; omega)
        rwa [(stepS_M s).1] at this
  · have K := Aside0.mk (find_bad w g S s k h hn)
    obtain ⟨E, hE⟩ : ∃ E, findE s k = E := ⟨_, rfl⟩
    rw [hE] at K hn
    have d : (E != 0) = true := bne_iff_ne.2 hn
    have HE := Aside0.mk hE
    have HN := Aside0.mk hn
    clear h hn hE
    go_enter Try.func17, Try.ntmps17
    go_wp2_with (fail)
    refine K.out.mono ?_
    rintro e0 w0 ⟨rfl, rfl⟩
    clear K
    go_wp2
    go_ret
    unfold Turned syn
    rw [HE.out, if_pos HN.out]
    exact ⟨rfl, ⟨bm, es, HI.out.mono Fr.of⟩, Chg.refl _ _⟩
end Go.Proofs.Ytoimpjmoikjibaa.Dk
