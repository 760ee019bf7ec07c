/- The dock's calls, walked: Down, Arm, Grow, Safe, Sync, Remove, Read. -/
import Derived.Test.YtoimpjmoikjibaaDkC
namespace Go.Proofs.Ytoimpjmoikjibaa.Dk
open Go Go.RowKit Go.ChangeMaps Go.Proofs.Ytoimpjmoikjibaa.IMap Go.Proofs.YtoimpjmoikjibaaW.PrintWords Go.Proofs.YtoimpjmoikjibaaW.PrintLast Go.Proofs.YtoimpjmoikjibaaW.PrintMore
set_option linter.unusedVariables false
set_option linter.unusedSimpArgs false
variable (w : World) (g : Nat) (S : Nat → Prop) (s : DS)
set_option maxHeartbeats 4000000 in
set_option maxRecDepth 20000 in
theorem Down_T (h : Dk w g S s) : Calls Try.prog 21 #[.pointer (some ⟨g, 0, none⟩)] w fun e w' => e = .returned (.bool s.down) ∧ w = w' := by
  obtain ⟨bm, es, h⟩ := h
  have hc3 := (blk_cell h.gc) 3
  clear h
  go_enter Try.func21, Try.ntmps21
  go_wp2
  go_ret
  exact ⟨rfl, rfl⟩
theorem ok_arm {s : DS} (h : OK s) {n : Int} (h1 : n < 9223372036854775808) : OK (arm s n) := { h with left0 := (by show -1 ≤ max n (-1); omega), left1 := (by show max n (-1) < _; omega) }
theorem ok_grow {s : DS} (h : OK s) (n : Int) : OK (grow s n) := { h with cap0 := (by show 0 ≤ min (max n 0) 16777216; omega), cap1 := (by show min (max n 0) 16777216 ≤ _; omega) }
set_option maxHeartbeats 4000000 in
set_option maxRecDepth 20000 in
theorem Arm_T (n : Int) (h : Dk w g S s) (h1 : n < 9223372036854775808) : Calls Try.prog 22 #[.pointer (some ⟨g, 0, none⟩), .int .i64 n] w fun e w' => e = .returned (.tuple #[]) ∧ Dk w' g S (arm s n) ∧ At1 g w w' := by
  obtain ⟨bm, es, h⟩ := h
  have HI := Aside0.mk h
  have HG := Aside0.mk h.gc
  have HK := Aside0.mk (ok_arm h.ok h1)
  have hc2 := (blk_cell h.gc) 2
  have hz2 := free_of h.gc 2
  clear h
  go_enter Try.func22, Try.ntmps22
  go_wp2
  all_goals
    go_end0
    refine ⟨rfl, ⟨bm, es, HI.out.setG ?_ (fun k hk => Below.heap_setCell w ⟨g, 2, none⟩ _ k hk) rfl HK.out⟩, At1.set _ _ _ _⟩
    rw [box_set (o := 2) HG.out _]
    simp [arm]
    omega
set_option maxHeartbeats 4000000 in
set_option maxRecDepth 20000 in
theorem Grow_T (n : Int) (h : Dk w g S s) : Calls Try.prog 53 #[.pointer (some ⟨g, 0, none⟩), .int .i64 n] w fun e w' => e = .returned (.tuple #[]) ∧ Dk w' g S (grow s n) ∧ At1 g w w' := by
  obtain ⟨bm, es, h⟩ := h
  have HI := Aside0.mk h
  have HG := Aside0.mk h.gc
  have HK := Aside0.mk (ok_grow h.ok n)
  have hc1 := (blk_cell h.gc) 1
  have hz1 := free_of h.gc 1
  clear h
  go_enter Try.func53, Try.ntmps53
  go_wp2
  all_goals
    go_end0
    refine ⟨rfl, ⟨bm, es, HI.out.setG ?_ (fun k hk => Below.heap_setCell w ⟨g, 1, none⟩ _ k hk) rfl HK.out⟩, At1.set _ _ _ _⟩
    rw [box_set (o := 1) HG.out _]
    simp [grow]
    omega
def safeOf (s : DS) (k : Int) : Nat := ((get s.M k).getD ([], 0)).2
set_option maxHeartbeats 4000000 in
set_option maxRecDepth 20000 in
theorem Safe_T (k : Int) (h : Dk w g S s) : Calls Try.prog 20 #[.pointer (some ⟨g, 0, none⟩), .int .i64 k] w fun e w' => e = .returned (.int .i64 (safeOf s k : Int)) ∧ w = w' := by
  obtain ⟨bm, es, h⟩ := h
  have hc0 := (blk_cell h.gc) 0
  have hl := look_I0 w g S s h k
  have hm := h.mir k
  unfold safeOf
  cases hq : get es k with
  | none =>
    rw [hq] at hl hm
    rw [hm]
    clear h hm hq
    go_enter Try.func20, Try.ntmps20
    go_wp2
    go_ret
    exact ⟨rfl, rfl⟩
  | some x =>
    have hf := h.fc _ (get_mem hq)
    have hf1 := (blk_cell hf) 1
    rw [hq] at hl hm
    rw [hm]
    simp only [Option.map_some, Option.getD_some, Ent.ptr] at hl ⊢
    clear h hm hq hf
    go_enter Try.func20, Try.ntmps20
    go_wp2
    go_ret
    exact ⟨rfl, rfl⟩
/-- What a call that may turn the dock comes to. -/
def Turned (w : World) (g : Nat) (S : Nat → Prop) (r : Int × DS) (e : Ending) (w' : World) : Prop := e = .returned (.int .i64 r.1) ∧ Dk w' g (Fr S w w') r.2 ∧ Chg S w w'
theorem find_bad {bm : Nat} {es : List (Int × Ent)} (k : Int) (h : DkI w g S s bm es) (hn : findE s k ≠ 0) : Calls Try.prog 45 #[.pointer (some ⟨g, 0, none⟩), .int .i64 k] w fun e w' => e = .returned (.tuple #[.pointer none, .int .i64 (findE s k)]) ∧ w = w' := by
  have := find_I w g S s bm es k h
  rwa [if_neg hn] at this
theorem find_good {bm : Nat} {es : List (Int × Ent)} (k : Int) (x : Ent) (h : DkI w g S s bm es) (h0 : findE s k = 0) (hx : get es k = some x) : Calls Try.prog 45 #[.pointer (some ⟨g, 0, none⟩), .int .i64 k] w fun e w' => e = .returned (.tuple #[.pointer (some ⟨x.f, 0, none⟩), .int .i64 0]) ∧ w = w' := by
  have := find_I w g S s bm es k h
  rwa [h0, if_pos rfl, hx] at this
theorem Fr.of {S : Nat → Prop} {w w' : World} (k : Nat) (h : S k) : Fr S w w' k := .inl h
set_option maxHeartbeats 4000000 in
set_option maxRecDepth 20000 in
theorem Sync_T (k : Int) (h : Dk w g S s) : Calls Try.prog 17 #[.pointer (some ⟨g, 0, none⟩), .int .i64 k] w (Turned w g S (syn s k)) := by
  obtain ⟨bm, es, h⟩ := h
  have HI := Aside0.mk h
  rcases findE_cases h k with ⟨h0, hd, ⟨f, v, b, n⟩, hge, hgm⟩ | hn
  · have K := Aside0.mk (find_good w g S s k _ h h0 hge)
    have K2 := Aside0.mk (step_I w g S s bm es h)
    dsimp only at K hgm
    obtain ⟨D, hD⟩ : ∃ d, (stepS s).down = d := ⟨_, rfl⟩
    rw [hD] at K2
    have H0 := Aside0.mk h0
    have HD := Aside0.mk hD
    have HGE := Aside0.mk hge
    have HGM := Aside0.mk hgm
    clear h h0 hd hge hgm hD
    go_enter Try.func17, Try.ntmps17
    go_wp2_with (fail)
    refine K.out.mono ?_
    rintro e0 w0 ⟨rfl, rfl⟩
    go_wp2_with (fail)
    refine K2.out.mono ?_
    rintro e1 w1 ⟨rfl, hi, ha⟩
    have HI1 := Aside0.mk hi
    have HA := Aside0.mk ha
    have hf := hi.fc _ (get_mem HGE.out)
    dsimp only at hf
    have hr := hi.fb _ (get_mem HGE.out)
    dsimp only at hr
    obtain ⟨A, c, rfl, _, _, _⟩ := hr.reads
    have hf0 := (blk_cell hf) 0
    have hf1 := (blk_cell hf) 1
    have hz1 := free_of hf 1
    have HF := Aside0.mk hf
    clear hi ha hf hr K K2
    cases D with
    | true =>
      go_wp2
      go_ret
      unfold Turned syn
      rw [if_neg (by rw [H0.out]; simp), if_pos HD.out]
      exact ⟨rfl, ⟨bm, es, HI1.out.mono Fr.of⟩, HA.out.chg HI.out.sg⟩
    | false =>
      go_wp2
      go_ret
      unfold Turned syn
      rw [if_neg (by rw [H0.out]; simp), if_neg (by rw [HD.out]; simp), HGM.out]
      have hmem := get_mem HGE.out
      have hA1 := At1.set w1 f 1 (.int .i64 (b.length : Int))
      refine ⟨rfl, ⟨bm, put es k ⟨f, .slice A b.length c, b, b.length⟩, ?_⟩, (HA.out.chg HI.out.sg).trans (hA1.chg (HI.out.fs _ hmem).1)⟩
      refine HI1.out.put k ⟨f, .slice A b.length c, b, b.length⟩ Fr.of ((hA1.2.2 g (fun e => (HI1.out.ne_f hmem).1 e.symm)).trans HI1.out.gc) ?_ (box_set (o := 1) HF.out _) ?_ ⟨.inl (HI.out.fs _ hmem).1, fun b hb => .inl ((HI.out.fs _ hmem).2 b hb)⟩ (fun q hq hne => ?_) (fun q hq hne => apart_of (e := ⟨f, .slice A b.length c, b, n⟩) rfl rfl (HI1.out.apart hmem hq (fun e => hne e.symm))) (by rw [(stepS_M s).1]; rfl) ?_
      · rw [vals_put_same (e' := ⟨f, .slice A b.length c, b, b.length⟩) HGE.out rfl]
        exact HI1.out.im.move (hA1.2.2 bm (fun e => (HI1.out.ne_f hmem).2 e.symm))
      · exact (HI1.out.fb _ hmem).move fun j hj => hA1.2.2 j (HI1.out.ne_row hmem hmem hj).2.2
      · refine ⟨hA1.2.2 _ (fun e => (HI1.out.apart hmem hq (fun e => hne e.symm)).1 e.symm), fun j hj => hA1.2.2 j (HI1.out.ne_row hq hmem hj).2.2⟩
      · have hok := HI1.out.ok
        have hz := size_ins hok.asc k (b, b.length)
        rw [(stepS_M s).1, HGM.out] at hz
        dsimp only [Option.getD_some] at hz
        have hsz := hok.size
        rw [(stepS_M s).1] at hsz
        have := ok_ins hok k b b.length (ok_name HI.out.ok HGM.out) (Nat.le_refl _) (by rw [(stepS_M s).1]; omega)
        rwa [(stepS_M s).1] at this
  · have K := Aside0.mk (find_bad w g S s k h hn)
    obtain ⟨E, hE⟩ : ∃ E, findE s k = E := ⟨_, rfl⟩
    rw [hE] at K hn
    have d : (E != 0) = true := bne_iff_ne.2 hn
    have HE := Aside0.mk hE
    have HN := Aside0.mk hn
    clear h hn hE
    go_enter Try.func17, Try.ntmps17
    go_wp2_with (fail)
    refine K.out.mono ?_
    rintro e0 w0 ⟨rfl, rfl⟩
    clear K
    go_wp2
    go_ret
    unfold Turned syn
    rw [HE.out, if_pos HN.out]
    exact ⟨rfl, ⟨bm, es, HI.out.mono Fr.of⟩, Chg.refl _ _⟩
end Go.Proofs.Ytoimpjmoikjibaa.Dk
namespace Go.Proofs.Ytoimpjmoikjibaa.Dk
open Go Go.RowKit Go.ChangeMaps Go.Proofs.Ytoimpjmoikjibaa.IMap Go.Proofs.YtoimpjmoikjibaaW.PrintWords Go.Proofs.YtoimpjmoikjibaaW.PrintLast Go.Proofs.YtoimpjmoikjibaaW.PrintMore
set_option linter.unusedVariables false
set_option linter.unusedSimpArgs false
theorem cut_max {P : Program} (t e : TypeId) {i : TypeInfo} (ht : P.underlying t = some (.slice e)) (hi : P.info? e = some i) (A : Option Addr) (n c : Nat) (j : Int) (h0 : 0 ≤ j) (hm : j ≤ n) (hc : n ≤ c) :
    ∀ W : World, (Instr.slice t (.slice A n c) none (some (.int .i64 j)) (some (.int .i64 j))).run P W = .ok (.slice A j.toNat j.toNat) W := by
  intro W
  have hel : P.elem t = e := by simp [Program.elem, ht]
  have eh : (j.toNat : Int) = j := Int.toNat_of_nonneg h0
  have ha : (A.map fun x => x.add 0) = A := by cases A <;> simp [Addr.add]
  simp [Instr.slice, run_underlying ht, Instr.sliceBounds, run_sliceBound, sliced, h0, eh, show j ≤ (c : Int) by omega, hel, sizeOf, typeInfo, hi, Result.andThen, ha]
theorem hr0 {w1 : World} {es : List (Int × Ent)} {k : Int} {f sf c m : Nat} {A : Option Addr} {b : List Int} (h : ∀ p ∈ es, BW w1 p.2.v p.2.b) (hm : (k, (⟨f, .slice A b.length c, b, sf⟩ : Ent)) ∈ es) (hl : m ≤ b.length) : BW w1 (.slice A m m) (b.take m) := BW.cut (h _ hm) m hl
variable (w : World) (g : Nat) (S : Nat → Prop) (s : DS)
set_option maxHeartbeats 4000000 in
set_option maxRecDepth 20000 in
theorem Remove_T (k : Int) (h : Dk w g S s) : Calls Try.prog 25 #[.pointer (some ⟨g, 0, none⟩), .int .i64 k] w (Turned w g S (rmv s k)) := by
  obtain ⟨bm, es, h⟩ := h
  have HI := Aside0.mk h
  rcases findE_cases h k with ⟨h0, hd, x, hge, hgm⟩ | hn
  · have K := Aside0.mk (find_good w g S s k _ h h0 hge)
    have K2 := Aside0.mk (step_I w g S s bm es h)
    obtain ⟨D, hD⟩ : ∃ d, (stepS s).down = d := ⟨_, rfl⟩
    rw [hD] at K2
    have H0 := Aside0.mk h0
    have HD := Aside0.mk hD
    clear h h0 hd hge hgm hD
    go_enter Try.func25, Try.ntmps25
    go_wp2_with (fail)
    refine K.out.mono ?_
    rintro e0 w0 ⟨rfl, rfl⟩
    go_wp2_with (fail)
    refine K2.out.mono ?_
    rintro e1 w1 ⟨rfl, hi, ha⟩
    have HI1 := Aside0.mk hi
    have HA := Aside0.mk ha
    have hc0 := (blk_cell hi.gc) 0
    clear hi ha K K2
    cases D with
    | true =>
      go_wp2
      go_ret
      unfold Turned rmv
      rw [if_neg (by rw [H0.out]; simp), if_pos HD.out]
      exact ⟨rfl, ⟨bm, es, HI1.out.mono Fr.of⟩, HA.out.chg HI.out.sg⟩
    | false =>
      go_wp2_with (refine at_del rfl _ _ 82 3 rfl Try.underlying82 Try.underlying3 rfl HI1.out.im k rfl ?_; intro ob hob; have HO := Aside0.mk hob; clear hob)
      go_wp2
      go_ret
      unfold Turned rmv
      rw [if_neg (by rw [H0.out]; simp), if_neg (by rw [HD.out]; simp)]
      have him := HO.out
      rw [del_vals] at him
      have hok := HI1.out.ok
      refine ⟨rfl, ⟨bm, del es k, (HI1.out.del (s' := { stepS s with M := rem s.M k }) k ((heap_set_other ob (fun e => HI1.out.im.ne HI1.out.gc e.symm) w1).trans HI1.out.gc) him (fun b _ hb => heap_set_other ob hb w1) (by rw [(stepS_M s).1]) ?_).mono Fr.of⟩, (HA.out.chg HI.out.sg).trans ⟨below_set (Below.refl 0 w1) (Nat.zero_le _) ob, fun b _ hb => heap_set_other ob (show b ≠ bm from fun e => hb (by rw [e]; exact HI.out.sm)) w1⟩⟩
      have := ok_rem hok k
      rwa [(stepS_M s).1] at this
  · have K := Aside0.mk (find_bad w g S s k h hn)
    obtain ⟨E, hE⟩ : ∃ E, findE s k = E := ⟨_, rfl⟩
    rw [hE] at K hn
    have d : (E != 0) = true := bne_iff_ne.2 hn
    have HE := Aside0.mk hE
    have HN := Aside0.mk hn
    clear h hn hE
    go_enter Try.func25, Try.ntmps25
    go_wp2_with (fail)
    refine K.out.mono ?_
    rintro e0 w0 ⟨rfl, rfl⟩
    clear K
    go_wp2
    go_ret
    unfold Turned rmv
    rw [HE.out, if_pos HN.out]
    exact ⟨rfl, ⟨bm, es, HI.out.mono Fr.of⟩, Chg.refl _ _⟩
def bytesOf (s : DS) (k : Int) : List Int := if findE s k = 0 then ((get s.M k).getD ([], 0)).1 else []
set_option maxHeartbeats 4000000 in
set_option maxRecDepth 20000 in
theorem Read_T (k : Int) (h : Dk w g S s) : Calls Try.prog 19 #[.pointer (some ⟨g, 0, none⟩), .int .i64 k] w fun e w' => ∃ v, e = .returned (.tuple #[v, .int .i64 (findE s k)]) ∧ Kd.R (Kd.int .u8) 5 w' w.heap.size (fun _ => True) v (bytesOf s k) ∧ Below w.heap.size w w' := by
  obtain ⟨bm, es, h⟩ := h
  rcases findE_cases h k with ⟨h0, hd, ⟨f, v, b, n⟩, hge, hgm⟩ | hn
  · have K := Aside0.mk (find_good w g S s k _ h h0 hge)
    have hbe : bytesOf s k = b := by unfold bytesOf; rw [if_pos h0, hgm]; rfl
    rw [h0, hbe]
    have hf := h.fc _ (get_mem hge)
    dsimp only at hf
    have hr := h.fb _ (get_mem hge)
    dsimp only at hr
    obtain ⟨A, c, rfl, hc, _, hC⟩ := hr.reads
    have hbl : b.length ≤ 16777216 := Nat.le_trans (size_get hgm) h.ok.size
    have hf0 := (blk_cell hf) 0
    have K2 := Aside0.mk (Clone_T A c b w hC hc (by omega))
    clear h h0 hd hge hgm hbe hf hr hc hC hbl
    dsimp only at K
    go_enter Try.func19, Try.ntmps19
    go_wp2_with (fail)
    refine K.out.mono ?_
    rintro e0 w0 ⟨rfl, rfl⟩
    go_wp2_with (fail)
    refine K2.out.mono ?_
    rintro e1 w1 ⟨v1, rfl, hr, hb⟩
    have HR := Aside0.mk hr
    have HB := Aside0.mk hb
    clear hr hb K K2
    go_wp2
    go_ret2
    exact ⟨_, rfl, HR.out, HB.out⟩
  · have K := Aside0.mk (find_bad w g S s k h hn)
    have hbe : bytesOf s k = [] := if_neg hn
    rw [hbe]
    obtain ⟨E, hE⟩ : ∃ E, findE s k = E := ⟨_, rfl⟩
    rw [hE] at K hn ⊢
    have d : (E != 0) = true := bne_iff_ne.2 hn
    clear h hn hE hbe
    go_enter Try.func19, Try.ntmps19
    go_wp2_with (fail)
    refine K.out.mono ?_
    rintro e0 w0 ⟨rfl, rfl⟩
    clear K
    go_wp2
    go_ret2
    exact ⟨_, rfl, Kd.R_nil _ _ _ _ _, Below.refl _ _⟩
theorem two_at01 (w1 : World) (f : Nat) (x y : Value) : At1 f w1 ((w1.setCell ⟨f, 0, none⟩ x).setCell ⟨f, 1, none⟩ y).drew := At1.drew ((At1.set w1 f 0 _).trans (At1.set _ f 1 _))
theorem two_at10 (w1 : World) (f : Nat) (x y : Value) : At1 f w1 ((w1.setCell ⟨f, 1, none⟩ y).setCell ⟨f, 0, none⟩ x).drew := At1.drew ((At1.set w1 f 1 _).trans (At1.set _ f 0 _))
theorem two_set01 {w1 : World} {f t : Nat} {a b : Value} (h : w1.heap[f]? = some (.cells #[a, b] t (0, 0))) (x y : Value) : ((w1.setCell ⟨f, 0, none⟩ x).setCell ⟨f, 1, none⟩ y).drew.heap[f]? = some (.cells #[x, y] t (0, 0)) := box_set (o := 1) (box_set (o := 0) h x) y
theorem two_set10 {w1 : World} {f t : Nat} {a b : Value} (h : w1.heap[f]? = some (.cells #[a, b] t (0, 0))) (x y : Value) : ((w1.setCell ⟨f, 1, none⟩ y).setCell ⟨f, 0, none⟩ x).drew.heap[f]? = some (.cells #[x, y] t (0, 0)) := box_set (o := 0) (box_set (o := 1) h y) x
theorem cut_fin {w1 W : World} {bm f sf c m X : Nat} {k : Int} {es : List (Int × Ent)} {A : Option Addr} {b : List Int} (hI : DkI w g S s bm es) (hI1 : DkI w1 g S (stepS s) bm es) (hA : At1 g w w1) (h0 : findE s k = 0) (hD : (stepS s).down = false)
    (hge : get es k = some ⟨f, .slice A b.length c, b, sf⟩) (hgm : get s.M k = some (b, sf)) (hm : m ≤ b.length) (hX : X = min sf m) (hW : At1 f w1 W) (hc : W.heap[f]? = some (.cells #[.slice A m m, .int .i64 (X : Int)] 87 (0, 0))) :
    Turned w g S (cut s k (m : Int)) (.returned (.int .i64 0)) W := by
  unfold Turned cut
  rw [if_neg (by rw [h0]; simp), hgm, Option.getD_some, if_neg (show ¬ ((m : Int) < 0 ∨ (b.length : Int) < (m : Int)) by omega), if_neg (by rw [hD]; simp), Int.toNat_natCast]
  dsimp only
  rw [← hX]
  have hmem := get_mem hge
  have hgm1 : get (stepS s).M k = some (b, sf) := by rw [(stepS_M s).1]; exact hgm
  have hok := hI1.ok
  have hz := size_ins hok.asc k (b.take m, X)
  rw [hgm1] at hz
  have hsz := hok.size
  have hlt : (b.take m).length = m := by rw [List.length_take]; exact Nat.min_eq_left hm
  dsimp only [Option.getD_some] at hz
  have hok2 := ok_ins hok k (b.take m) X (ok_name hI.ok hgm) (by omega) (by omega)
  have h3 := (hI1.turnF hge ⟨f, .slice A m m, b.take m, X⟩ rfl own_len hW hc (hr0 hI1.fb hmem hm) hok2).mono (Fr.of (S := S) (w := w) (w' := W))
  rw [(stepS_M s).1] at h3
  exact ⟨rfl, ⟨bm, _, h3⟩, (hA.chg hI.sg).trans (hW.chg (hI.fs _ hmem).1)⟩
set_option maxHeartbeats 4000000 in
set_option maxRecDepth 20000 in
theorem Cut_T (k n : Int) (h : Dk w g S s) : Calls Try.prog 27 #[.pointer (some ⟨g, 0, none⟩), .int .i64 k, .int .i64 n] w (Turned w g S (cut s k n)) := by
  obtain ⟨bm, es, h⟩ := h
  have HI := Aside0.mk h
  rcases findE_cases h k with ⟨h0, hd, ⟨f, v, b, sf⟩, hge, hgm⟩ | hn
  · have K := Aside0.mk (find_good w g S s k _ h h0 hge)
    have K2 := Aside0.mk (step_I w g S s bm es h)
    dsimp only at K hgm
    obtain ⟨D, hD⟩ : ∃ d, (stepS s).down = d := ⟨_, rfl⟩
    rw [hD] at K2
    have hf := h.fc _ (get_mem hge)
    dsimp only at hf
    have hr := h.fb _ (get_mem hge)
    dsimp only at hr
    obtain ⟨A, c, rfl, hcl, _, _⟩ := hr.reads
    have hf0 := (blk_cell hf) 0
    have H0 := Aside0.mk h0
    have HD := Aside0.mk hD
    have HGE := Aside0.mk hge
    have HGM := Aside0.mk hgm
    have HCL := Aside0.mk hcl
    clear h h0 hd hge hgm hD hf hr hcl
    by_cases q : n < 0 ∨ (b.length : Int) < n
    · have HQ := Aside0.mk q
      rcases q with q | q
      all_goals
        first | have q1 : decide (n < 0) = true := decide_eq_true q | (have q1 : decide (n < 0) = false := decide_eq_false (by omega); have q2 : decide ((b.length : Int) < n) = true := decide_eq_true q)
        clear q
        go_enter Try.func27, Try.ntmps27
        go_wp2_with (fail)
        refine K.out.mono ?_
        rintro e0 w0 ⟨rfl, rfl⟩
        clear K K2
        go_wp2
        go_ret
        unfold Turned cut
        rw [if_neg (by rw [H0.out]; simp), if_pos (by rw [HGM.out]; exact HQ.out)]
        exact ⟨rfl, ⟨bm, es, HI.out.mono Fr.of⟩, Chg.refl _ _⟩
    · have HQ := Aside0.mk q
      have q1 : decide (n < 0) = false := decide_eq_false (by omega)
      obtain ⟨m, rfl⟩ : ∃ m : Nat, n = (m : Int) := ⟨n.toNat, by omega⟩
      have q2 : decide (b.length < m) = false := decide_eq_false (by omega)
      have HM : Aside0 (m ≤ b.length) := ⟨by omega⟩
      obtain ⟨i0, hi0, _⟩ := Option.map_eq_some_iff.1 infoB8
      have hcut := cut_max (P := Try.prog) 22 5 Try.underlying22 hi0 A b.length c (m : Int) (by omega) (by omega) HCL.out
      rw [Int.toNat_natCast] at hcut
      clear q hi0
      go_enter Try.func27, Try.ntmps27
      go_wp2_with (fail)
      refine K.out.mono ?_
      rintro e0 w0 ⟨rfl, rfl⟩
      go_wp2_with (fail)
      refine K2.out.mono ?_
      rintro e1 w1 ⟨rfl, hi, ha⟩
      have HI1 := Aside0.mk hi
      have HA := Aside0.mk ha
      have hf := hi.fc _ (get_mem HGE.out)
      dsimp only at hf
      clear hf0
      have hf0 := (blk_cell hf) 0
      have hf1 := (blk_cell hf) 1
      have hz0 := free_of hf 0
      have hz1 := free_of hf 1
      have HF := Aside0.mk hf
      clear hi ha hf K K2
      cases D with
      | true =>
        go_wp2
        go_ret
        unfold Turned cut
        rw [if_neg (by rw [H0.out]; simp), if_neg (by rw [HGM.out]; exact HQ.out), if_pos HD.out]
        exact ⟨rfl, ⟨bm, es, HI1.out.mono Fr.of⟩, HA.out.chg HI.out.sg⟩
      | false =>
        by_cases cm : sf ≤ m
        · have HCM := Aside0.mk cm
          go_wp2
          go_region_law (fail)
          all_goals go_wp2
          all_goals first
            | (exfalso; have := HCM.out; omega)
            | (go_ret
               refine cut_fin w g S s HI.out HI1.out HA.out H0.out HD.out HGE.out HGM.out HM.out (X := sf) (by have := HCM.out; omega) ?_ ?_
               · first | with_reducible exact two_at01 w1 f _ _ | with_reducible exact two_at10 w1 f _ _
               · first | with_reducible exact two_set01 HF.out _ _ | with_reducible exact two_set10 HF.out _ _)
        · have HCM := Aside0.mk cm
          go_wp2
          go_region_law (fail)
          all_goals go_wp2
          all_goals first
            | (exfalso; have := HCM.out; omega)
            | (go_ret
               refine cut_fin w g S s HI.out HI1.out HA.out H0.out HD.out HGE.out HGM.out HM.out (X := m) (by have := HCM.out; omega) ?_ ?_
               · first | with_reducible exact two_at01 w1 f _ _ | with_reducible exact two_at10 w1 f _ _
               · first | with_reducible exact two_set01 HF.out _ _ | with_reducible exact two_set10 HF.out _ _)
  · have K := Aside0.mk (find_bad w g S s k h hn)
    obtain ⟨E, hE⟩ : ∃ E, findE s k = E := ⟨_, rfl⟩
    rw [hE] at K hn
    have d : (E != 0) = true := bne_iff_ne.2 hn
    have HE := Aside0.mk hE
    have HN := Aside0.mk hn
    clear h hn hE
    go_enter Try.func27, Try.ntmps27
    go_wp2_with (fail)
    refine K.out.mono ?_
    rintro e0 w0 ⟨rfl, rfl⟩
    clear K
    go_wp2
    go_ret
    unfold Turned cut
    rw [HE.out, if_pos HN.out]
    exact ⟨rfl, ⟨bm, es, HI.out.mono Fr.of⟩, Chg.refl _ _⟩
end Go.Proofs.Ytoimpjmoikjibaa.Dk
