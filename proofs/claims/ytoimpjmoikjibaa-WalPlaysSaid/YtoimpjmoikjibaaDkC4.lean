/- The dock's calls, walked: Size, Names. -/
import Derived.Test.YtoimpjmoikjibaaDkC2
import Derived.Test.YtoimpjmoikjibaaKeysM
import Derived.StillTailTactics
import Derived.BigRegion
import Derived.Deep.DeepCutAuto
import Derived.Deep.CutRange
namespace Go.Proofs.Ytoimpjmoikjibaa.Dk
open Go Go.RowKit Go.ChangeMaps Go.Proofs.Ytoimpjmoikjibaa.IMap Go.Proofs.YtoimpjmoikjibaaW.PrintWords Go.Proofs.YtoimpjmoikjibaaW.PrintLast Go.Proofs.YtoimpjmoikjibaaW.PrintMore
set_option linter.unusedVariables false
set_option linter.unusedSimpArgs false
/-- The files' lengths of those that are no longer to come. -/
def done (left : Lit → Bool) (es : List (Int × Ent)) : Nat := (es.map fun p => if left (.int .i64 p.1) = true then 0 else p.2.b.length).sum
theorem done_le (left : Lit → Bool) (es : List (Int × Ent)) : done left es ≤ (es.map fun p => p.2.b.length).sum := by
  unfold done
  induction es with
  | nil => exact Nat.le_refl _
  | cons p es ih =>
    simp only [List.map_cons, List.sum_cons]
    split <;> omega
theorem done_step {left : Lit → Bool} {es : List (Int × Ent)} (hn : (keys es).Nodup) {k : Int} {e : Ent} (he : (k, e) ∈ es) (hl : left (.int .i64 k) = true) :
    done (fun z => left z && !z.sameKey (.int .i64 k)) es = done left es + e.b.length := by
  unfold done
  induction es with
  | nil => cases he
  | cons p es ih =>
    simp only [keys, List.map_cons, List.nodup_cons] at hn
    simp only [List.map_cons, List.sum_cons]
    have hs : ∀ x : Int, (Lit.int IntKind.i64 x).sameKey (.int .i64 k) = decide (x = k) := fun x => by simp [Lit.sameKey]
    rcases List.mem_cons.1 he with rfl | he
    · have hrest : (es.map fun p => if (left (.int .i64 p.1) && !(Lit.int IntKind.i64 p.1).sameKey (.int .i64 k)) = true then 0 else p.2.b.length) = es.map fun p => if left (.int .i64 p.1) = true then 0 else p.2.b.length := by
        apply List.map_congr_left
        intro q hq
        have : q.1 ≠ k := fun e => hn.1 (by rw [← e]; exact List.mem_map.2 ⟨q, hq, rfl⟩)
        rw [hs, decide_eq_false this]
        simp
      rw [hrest]
      simp only [hs, hl]
      simp
      omega
    · have : p.1 ≠ k := fun e' => hn.1 (by rw [e']; exact List.mem_map.2 ⟨_, he, rfl⟩)
      rw [ih hn.2 he]
      simp only [hs, decide_eq_false this]
      simp
      omega
theorem done_all {left : Lit → Bool} {es : List (Int × Ent)} (h : ∀ p ∈ es, left (.int .i64 p.1) = true) : done left es = 0 := by
  unfold done
  induction es with
  | nil => rfl
  | cons p es ih =>
    rw [List.map_cons, List.sum_cons, if_pos (h p (List.mem_cons_self ..)), ih (fun q hq => h q (List.mem_cons_of_mem _ hq))]
theorem done_none {left : Lit → Bool} {es : List (Int × Ent)} (h : ∀ kl, left kl = false) : done left es = (es.map fun p => p.2.b.length).sum := by
  unfold done
  congr 1
  apply List.map_congr_left
  intro p _
  rw [h, if_neg (by simp)]
section
variable {w : World} {g bm : Nat} {S : Nat → Prop} {s : DS} {es : List (Int × Ent)}
theorem DkI.perm (h : DkI w g S s bm es) : s.M.Perm (es.map fun p => (p.1, (p.2.b, p.2.s))) := by
  refine perm_of_get (asc_nodup h.ok.asc) ?_ fun k => ?_
  · have := h.nodup
    unfold keys at this ⊢
    rwa [List.map_map]
  · rw [h.mir k, ← get_vals (fun e : Ent => (e.b, e.s)) es k]
    rfl
theorem DkI.sizes (h : DkI w g S s bm es) : (es.map fun p => p.2.b.length).sum = size s.M := by
  rw [size_perm h.perm]
  unfold size
  rw [List.map_map]
  rfl
theorem DkI.keysP (h : DkI w g S s bm es) : (keys es).Perm (keys s.M) := by
  have := (h.perm.map Prod.fst).symm
  rw [List.map_map] at this
  exact this
theorem asc_sort {M : Fls} (h : Asc M) : sortI (keys M) = keys M := sortI_asc (by unfold keys; rw [List.pairwise_map]; exact h)
theorem asc_bound : ∀ {M : Fls} {lo hi : Int}, Asc M → (∀ p ∈ M, lo ≤ p.1 ∧ p.1 ≤ hi) → (M.length : Int) ≤ max 0 (hi - lo + 1)
  | [], lo, hi, _, _ => by simp; omega
  | p :: M, lo, hi, h, hb => by
    obtain ⟨h1, h2⟩ := List.pairwise_cons.1 h
    have h3 := asc_bound (lo := p.1 + 1) h2 (fun q hq => ⟨by have := h1 q hq; omega, (hb q (List.mem_cons_of_mem _ hq)).2⟩)
    have h4 := hb p (List.mem_cons_self ..)
    simp only [List.length_cons]
    omega
theorem DkI.len (h : DkI w g S s bm es) : es.length ≤ 1000000 := by
  have h1 := asc_bound h.ok.asc h.ok.names
  have h2 := h.perm.length_eq
  rw [List.length_map] at h2
  omega
theorem DkI.keyed (h : DkI w g S s bm es) : ∀ p ∈ vals Ent.ptr es, wfI p.1 = true ∧ ∃ f : Nat, p.2 = .pointer (some ⟨f, 0, none⟩) := by
  intro p hp
  obtain ⟨q, hq, rfl⟩ := List.mem_map.1 hp
  have hk : q.1 ∈ keys s.M := h.keysP.mem_iff.1 (List.mem_map.2 ⟨q, hq, rfl⟩)
  obtain ⟨r, hr, e⟩ := List.mem_map.1 hk
  have := h.ok.names r hr
  refine ⟨by simp only [wfI, decide_eq_true_eq]; omega, q.2.f, rfl⟩
end
variable (w : World) (g : Nat) (S : Nat → Prop) (s : DS)
set_option maxHeartbeats 4000000 in
set_option maxRecDepth 20000 in
theorem Size_T (h : Dk w g S s) : Calls Try.prog 26 #[.pointer (some ⟨g, 0, none⟩)] w fun e w' => e = .returned (.int .i64 (size s.M : Int)) ∧ Below w.heap.size w w' := by
  obtain ⟨bm, es, h⟩ := h
  obtain ⟨D, hown, hsz, hpm, hat, hhas⟩ := IM.owns h.im Try.underlying3 (by have := h.len; simp [vals]; omega) (fun p hp => (h.keyed p hp).1) (fun p hp => (h.keyed p hp).2)
  have hc0 := (blk_cell h.gc) 0
  have HI := Aside0.mk h
  have HAT := Aside0.mk hat
  have HHAS := Aside0.mk hhas
  have HLT : Aside0 (bm < w.heap.size) := ⟨h.im.lt⟩
  have HSZ := Aside0.mk h.sizes
  have HMX := Aside0.mk h.ok.size
  clear h hsz hpm hat hhas
  go_enter Try.func26, Try.ntmps26
  go_wp2_with (first
    | (at_range; refine wpList_range_own _ rfl _ 82 rfl 3 85 (Go.Maps.int_keyed Try.underlying3) Try.underlying82 _ bm _ _ rfl hown ?_; intro w0 hrg0 hg0 hs0)
    | go_in)
  go_frame
  have HB0 : Aside0 (Below w.heap.size w w0) := ⟨(Below.refl _ w).grown hg0 (Nat.le_refl _) (fun j hj => by cases hj)⟩
  have HLEFT : Aside0 (∀ p ∈ es, Maps.has D (.int .i64 p.1) = true) := ⟨fun p hp => (HHAS.out p.1).2 (by rw [keys_vals]; exact List.mem_map.2 ⟨p, hp, rfl⟩)⟩
  go_loopw [3] (fun v3 wr => ∃ (left : Lit → Bool) (cnt : Nat), v3 = .int .i64 (done left es : Int) ∧ wr.ranges Try.prog 3 Rp bm w.heap.size (vals Ent.ptr es).length D left cnt ∧ Aside0 (Below w.heap.size w wr)) (fun _ wr => wr.rangeLeft bm w.heap.size)
  case atStart => exact ⟨_, _, by rw [done_all HLEFT.out]; rfl, hrg0, HB0⟩
  case round =>
    obtain ⟨left, cnt, rfl, hrg, HB⟩ := hrel
    have hdl := done_le left es
    rw [HSZ.out] at hdl
    have HDL := Aside0.mk hdl
    clear hdl
    go_wp2_with (first
      | (at_next; refine wpList_next_ranges _ rfl _ rfl 3 (Go.Maps.int_keyed Try.underlying3) Rp (Value.int .i64) (fun f : Nat => Value.pointer (some ⟨f, 0, none⟩)) (fun key kl hkey => by obtain ⟨x, rfl, _⟩ := Maps.keyOf_int_inv Try.underlying3 hkey; exact ⟨x, rfl⟩) (fun v y hv => by obtain ⟨f, rfl, _⟩ := Rp_inv hv; exact ⟨f, rfl⟩) bm w.heap.size _ D left cnt rfl hrg ?_ ?_)
      | go_in)
    · intro _ hl0
      have hd : done left es = size s.M := (done_none hl0).trans HSZ.out
      go_wp2
      go_ret
      exact ⟨(show Ending.returned (.int .i64 (done left es : Int)) = _ by rw [hd]), HB.out⟩
    · intro x c kl yd yp w1 cnt1 hkey hlx hR hat hrg1 hlt hg1 hs1 hen
      obtain ⟨x', hx', rfl, _⟩ := Maps.keyOf_int_inv Try.underlying3 hkey
      cases hx'
      obtain ⟨c', hc', hy⟩ := Rp_inv hR
      cases hy
      obtain rfl : c = c' := by simpa using hc'
      obtain ⟨hm, _⟩ := HAT.out x (c : Int) hat
      rw [Int.toNat_natCast] at hm
      obtain ⟨⟨k', e⟩, he, hpe⟩ := List.mem_map.1 hm
      simp only [Prod.mk.injEq, Ent.ptr, Value.pointer.injEq, Option.some.injEq, Addr.mk.injEq, and_true] at hpe
      obtain ⟨rfl, hf⟩ := hpe
      have hfc := HI.out.fc _ he
      dsimp only at hfc
      rw [hf] at hfc
      obtain ⟨A, cc, hv, _, _, _⟩ := (HI.out.fb _ he).reads
      dsimp only at hv
      rw [hv] at hfc
      have hclt := blk_lt hfc
      have hfc1 : w1.heap[c]? = some (.cells #[.slice A e.b.length cc, .int .i64 (e.s : Int)] 87 (0, 0)) := by
        rw [hg1.block c (by have := HB.out.size; omega) (fun e => by have := Option.some.inj e; omega), HB.out.block c hclt]
        exact hfc
      have hf0 := (blk_cell hfc1) 0
      have hds := done_step (HI.out.nodup) he hlx
      have HB1 : Aside0 (Below w.heap.size w w1) := ⟨HB.out.grown hg1 HB.out.size (fun j hj => by cases hj; exact Nat.le_refl _)⟩
      have hle := done_le (fun z => left z && !z.sameKey (.int .i64 k')) es
      rw [HSZ.out, hds] at hle
      have e5 : wrap64 ((done left es : Int) + (e.b.length : Int)) = ((done left es + e.b.length : Nat) : Int) := by have := HMX.out; unfold wrap64; omega
      have HDS := Aside0.mk hds
      have HE5 := Aside0.mk e5
      have HRG := Aside0.mk hrg
      have HRG1 := Aside0.mk hrg1
      have HLT1 := Aside0.mk hlt
      clear hds hle e5 hkey hR hat hm he hf hfc hv hfc1 hclt hg1 hs1 hrg hrg1 hlt hlx hc'
      go_wp2
      go_roundw
      case rel => exact ⟨_, cnt1, by rw [HDS.out]; first | exact congrArg _ HE5.out | rfl, HRG1.out, HB1⟩
      case measure => rw [HRG1.out.left_eq, HRG.out.left_eq]; exact HLT1.out
set_option maxHeartbeats 4000000 in
set_option maxRecDepth 20000 in
theorem Names_T (h : Dk w g S s) : Calls Try.prog 23 #[.pointer (some ⟨g, 0, none⟩)] w fun e w' => ∃ v, e = .returned (.tuple #[v, .int .i64 (if s.down = true then 51 else 0)]) ∧ Kd.R (Kd.int .i64) 3 w' w.heap.size (fun _ => True) v (if s.down = true then [] else keys s.M) ∧ Below w.heap.size w w' := by
  obtain ⟨bm, es, h⟩ := h
  have hc0 := (blk_cell h.gc) 0
  have hc3 := (blk_cell h.gc) 3
  have K := Aside0.mk (Keys_T (some bm) w)
  have hk : sortI (keys (vals Ent.ptr es)) = keys s.M := by rw [keys_vals, sortI_perm h.keysP, asc_sort h.ok.asc]
  have K2 := Sorted_T bm _ w h.im (by have := h.len; simp [vals]; omega) (fun p hp => (h.keyed p hp).1) (fun p hp => (h.keyed p hp).2)
  rw [hk] at K2
  have K2 := Aside0.mk K2
  obtain ⟨D, hD⟩ : ∃ D, s.down = D := ⟨_, rfl⟩
  rw [hD] at hc3 ⊢
  clear h hk hD
  cases D with
  | true =>
    go_enter Try.func23, Try.ntmps23
    go_wp2
    go_ret2
    exact ⟨_, rfl, Kd.R_nil _ _ _ _ _, Below.refl _ _⟩
  | false =>
    go_enter Try.func23, Try.ntmps23
    go_wp2_with (fail)
    refine K.out.mono ?_
    rintro e0 w0 ⟨rfl, rfl⟩
    go_wp2_with (fail)
    refine K2.out.mono ?_
    rintro e1 w1 ⟨v, rfl, hr, hb⟩
    have HR := Aside0.mk hr
    have HB := Aside0.mk hb
    clear hr hb K K2
    go_wp2
    go_ret2
    exact ⟨_, rfl, HR.out, HB.out⟩
end Go.Proofs.Ytoimpjmoikjibaa.Dk
namespace Go.Proofs.Ytoimpjmoikjibaa.Dk
open Go Go.RowKit Go.ChangeMaps Go.Proofs.Ytoimpjmoikjibaa.IMap Go.Proofs.YtoimpjmoikjibaaW.PrintWords Go.Proofs.YtoimpjmoikjibaaW.PrintLast Go.Proofs.YtoimpjmoikjibaaW.PrintMore
set_option linter.unusedVariables false
set_option linter.unusedSimpArgs false
theorem grown_chg {S : Nat → Prop} {w w1 : World} {row : Option Nat} (h : w.grownBy w1 row) (hS : ∀ k, row = some k → S k) : Chg S w w1 :=
  ⟨⟨h.os, h.tape, h.output, h.size, fun k hk => absurd hk (Nat.not_lt_zero _)⟩, fun k hk hn => h.block k hk (fun e => hn (hS k e.symm))⟩
section
variable {w1 w2 : World} {g bm : Nat} {S : Nat → Prop} {s : DS} {es : List (Int × Ent)}
theorem DkI.appF (h : DkI w1 g S s bm es) {k : Int} {f sf : Nat} {v v1 : Value} {b0 b : List Int} (hge : get es k = some ⟨f, v, b0, sf⟩) (hb : BW w2 v1 (b0 ++ b)) (hg : w1.grownBy w2 v.ownBlock) (hat : v1.ownBlock = v.ownBlock ∨ v1.ownBlock = some w1.heap.size)
    (hok : OK { s with M := ins s.M k (b0 ++ b, sf) }) : DkI (w2.setCell ⟨f, 0, none⟩ v1) g (Fr S w1 w2) { s with M := ins s.M k (b0 ++ b, sf) } bm (IMap.put es k ⟨f, v1, b0 ++ b, sf⟩) ∧ Chg S w1 (w2.setCell ⟨f, 0, none⟩ v1) := by
  have hmem := get_mem hge
  have hfl := blk_lt (h.fc _ hmem)
  dsimp only at hfl
  have hnr : ∀ j, j < w1.heap.size → j ≠ f → some j ≠ v.ownBlock → (w2.setCell ⟨f, 0, none⟩ v1).heap[j]? = w1.heap[j]? := fun j hj hjf hjr => (Below.heap_setCell w2 ⟨f, 0, none⟩ v1 j hjf).trans (hg.block j hj hjr)
  have hgl := blk_lt h.gc
  have hrow : ∀ j, v.ownBlock = some j → j ≠ g ∧ j ≠ bm ∧ j ≠ f := fun j hj => h.ne_row hmem hmem hj
  refine ⟨h.put (s' := { s with M := ins s.M k (b0 ++ b, sf) }) k ⟨f, v1, b0 ++ b, sf⟩ (fun x hx => .inl hx) ((hnr g hgl (h.ne_f hmem).1.symm (fun e => (hrow g e.symm).1 rfl)).trans h.gc) ?_ ?_ ?_ ⟨.inl (h.fs _ hmem).1, fun j hj => ?_⟩ (fun q hq hne => ?_) (fun q hq hne => ?_) rfl hok, ?_⟩
  · rw [vals_put_same (e' := ⟨f, v1, b0 ++ b, sf⟩) hge rfl]
    exact h.im.move (hnr bm h.im.lt (h.ne_f hmem).2.symm (fun e => (hrow bm e.symm).2.1 rfl))
  · exact box_set (o := 0) ((hg.block f hfl (fun e => (hrow f e.symm).2.2 rfl)).trans (h.fc _ hmem)) v1
  · refine hb.move fun j hj => Below.heap_setCell w2 ⟨f, 0, none⟩ v1 j ?_
    rcases hat with e | e
    · exact (hrow j (by rw [← e]; exact hj)).2.2
    · rw [e] at hj
      have := Option.some.inj hj
      show j ≠ f
      omega
  · rcases hat with e | e
    · exact .inl ((h.fs _ hmem).2 j (by show v.ownBlock = some j; rw [← e]; exact hj))
    · have h1 : v1.ownBlock = some j := hj
      have h2 := hb.lt j h1
      rw [e] at h1
      have := Option.some.inj h1
      exact .inr ⟨by omega, h2⟩
  · have ha := h.apart hmem hq (fun e => hne e.symm)
    exact ⟨hnr _ (blk_lt (h.fc q hq)) ha.1.symm (fun e => (h.ne_row hmem hq e.symm).2.2 rfl), fun j hj => hnr j ((h.fb q hq).lt j hj) (h.ne_row hq hmem hj).2.2 (fun e => ha.2 j e.symm hj)⟩
  · have ha := h.apart hmem hq (fun e => hne e.symm)
    refine ⟨ha.1, fun j hj hjq => ?_⟩
    rcases hat with e | e
    · exact ha.2 j (by show v.ownBlock = some j; rw [← e]; exact hj) hjq
    · have h1 : v1.ownBlock = some j := hj
      rw [e] at h1
      have := Option.some.inj h1
      have := (h.fb q hq).lt j hjq
      omega
  · exact (grown_chg hg (fun j hj => (h.fs _ hmem).2 j hj)).trans ((At1.set w2 f 0 v1).chg (h.fs _ hmem).1)
theorem DkI.appN (h : DkI w1 g S s bm es) {k : Int} {v1 : Value} {b : List Int} {ob : Obj} (hge : get es k = none)
    (him : IM .i64 (setBlock (w1.alloc (.cells #[.slice none 0 0, .int .i64 0] 87)) bm ob) bm (IMap.put (vals Ent.ptr es) k (.pointer (some ⟨w1.heap.size, 0, none⟩))))
    (hb : BW w2 v1 b) (hg : (setBlock (w1.alloc (.cells #[.slice none 0 0, .int .i64 0] 87)) bm ob).grownBy w2 none) (hat : v1.ownBlock = none ∨ v1.ownBlock = some (w1.heap.size + 1))
    (hok : OK { s with M := ins s.M k (b, 0) }) : DkI (w2.setCell ⟨w1.heap.size, 0, none⟩ v1) g (Fr S w1 w2) { s with M := ins s.M k (b, 0) } bm (IMap.put es k ⟨w1.heap.size, v1, b, 0⟩) ∧ Chg S w1 (w2.setCell ⟨w1.heap.size, 0, none⟩ v1) := by
  have hbl := h.im.lt
  have hsz3 : (setBlock (w1.alloc (.cells #[.slice none 0 0, .int .i64 0] 87)) bm ob).heap.size = w1.heap.size + 1 := by rw [size_set, World.size_alloc]
  have hnr : ∀ j, j < w1.heap.size → j ≠ bm → (w2.setCell ⟨w1.heap.size, 0, none⟩ v1).heap[j]? = w1.heap[j]? := fun j hj hjb =>
    (Below.heap_setCell w2 ⟨w1.heap.size, 0, none⟩ v1 j (by show j ≠ w1.heap.size; omega)).trans ((hg.block j (by omega) (by simp)).trans ((heap_set_other ob hjb _).trans (Below.heap_alloc w1 _ j hj)))
  have hw2 := hg.size
  refine ⟨h.put (s' := { s with M := ins s.M k (b, 0) }) k ⟨w1.heap.size, v1, b, 0⟩ (fun x hx => .inl hx) ((hnr g (blk_lt h.gc) (h.im.ne h.gc).symm).trans h.gc) ?_ ?_ ?_ ⟨.inr ⟨Nat.le_refl _, by show w1.heap.size < _; omega⟩, fun j hj => ?_⟩ (fun q hq hne => ?_) (fun q hq hne => ?_) rfl hok, ?_⟩
  · have := him.move (w1 := w2.setCell ⟨w1.heap.size, 0, none⟩ v1) ((Below.heap_setCell w2 ⟨w1.heap.size, 0, none⟩ v1 bm (by show bm ≠ w1.heap.size; omega)).trans (hg.block bm (by omega) (by simp)))
    rw [show (Value.pointer (some ⟨w1.heap.size, 0, none⟩)) = Ent.ptr ⟨w1.heap.size, v1, b, 0⟩ from rfl, put_vals] at this
    exact this
  · refine box_set (o := 0) ((hg.block w1.heap.size (by omega) (by simp)).trans ((heap_set_other ob (by omega) _).trans (heap_last w1 _))) v1
  · refine hb.move fun j hj => Below.heap_setCell w2 ⟨w1.heap.size, 0, none⟩ v1 j ?_
    rcases hat with e | e
    · rw [e] at hj; cases hj
    · rw [e] at hj
      have := Option.some.inj hj
      show j ≠ w1.heap.size
      omega
  · have h1 : v1.ownBlock = some j := hj
    have h2 := hb.lt j h1
    rcases hat with e | e
    · rw [e] at h1; cases h1
    · rw [e] at h1
      have := Option.some.inj h1
      exact .inr ⟨by omega, h2⟩
  · exact ⟨hnr _ (blk_lt (h.fc q hq)) (h.ne_f hq).2, fun j hj => hnr j ((h.fb q hq).lt j hj) (h.ne_row hq hq hj).2.1⟩
  · have h3 := blk_lt (h.fc q hq)
    refine ⟨by show w1.heap.size ≠ q.2.f; omega, fun j hj hjq => ?_⟩
    have h1 : v1.ownBlock = some j := hj
    have h4 := (h.fb q hq).lt j hjq
    rcases hat with e | e
    · rw [e] at h1; cases h1
    · rw [e] at h1
      have := Option.some.inj h1
      omega
  · refine ⟨⟨?_, ?_, ?_, ?_, fun k hk => absurd hk (Nat.not_lt_zero _)⟩, fun j hj hn => hnr j hj (fun e => hn (by rw [e]; exact h.sm))⟩
    · exact hg.os
    · exact hg.tape
    · exact hg.output
    · rw [World.size_setCell]; omega
end
theorem C_setb {w : World} {A : Option Addr} {b : List Int} {bm : Nat} {l : List (Int × Value)} (h : Kd.C (Kd.int .u8) w A b.length b) (hm : IM .i64 w bm l) (ob : Obj) : Kd.C (Kd.int .u8) (setBlock w bm ob) A b.length b := by
  refine ⟨h.1, h.2.1, fun hp => ?_⟩
  obtain ⟨ad, e, hc⟩ := h.2.2 hp
  refine ⟨ad, e, fun j p hj => ?_⟩
  obtain ⟨cs, h1, h2, h3⟩ := hc j p hj
  refine ⟨cs, h1, h2, fun i u hu => ?_⟩
  have h4 := h3 i u hu
  have hne : (ad.add (j * (Kd.int IntKind.u8).sz + i)).block ≠ bm := fun e => by
    obtain ⟨es, clk, hb, _⟩ := hm
    unfold World.cell? at h4
    rw [e, hb] at h4
    cases h4
  unfold World.cell? at h4 ⊢
  rw [heap_set_other ob hne]
  exact h4
theorem app_cases (s : DS) (k : Int) (b : List Int) (hd : s.down = false) (hk : ¬ (k < 0 ∨ 999999 < k)) (hc : ¬ s.cap < (size s.M : Int) + b.length) :
    app s k b = (if (stepS { s with M := ins s.M k ((((get s.M k).getD ([], 0)).1 ++ b), ((get s.M k).getD ([], 0)).2) }).down = true then 51 else 0, stepS { s with M := ins s.M k ((((get s.M k).getD ([], 0)).1 ++ b), ((get s.M k).getD ([], 0)).2) }) := by
  unfold app
  rw [if_neg (by rw [hd]; simp), if_neg hk, if_neg hc]
theorem ok_app {s : DS} (h : OK s) (k : Int) (b : List Int) (hk : ¬ (k < 0 ∨ 999999 < k)) (hc : ¬ s.cap < (size s.M : Int) + b.length) : OK { s with M := ins s.M k ((((get s.M k).getD ([], 0)).1 ++ b), ((get s.M k).getD ([], 0)).2) } := by
  have hz := size_ins h.asc k ((((get s.M k).getD ([], 0)).1 ++ b), ((get s.M k).getD ([], 0)).2)
  dsimp only at hz
  rw [List.length_append] at hz
  have hs : ((get s.M k).getD ([], 0)).2 ≤ ((get s.M k).getD ([], 0)).1.length := by
    cases hq : get s.M k with
    | none => simp
    | some x => exact h.safe _ (get_mem hq)
  exact ok_ins h k _ _ (by omega) (by rw [List.length_append]; omega) (by have := h.cap1; omega)
variable (w : World) (g : Nat) (S : Nat → Prop) (s : DS)
set_option maxHeartbeats 8000000 in
set_option maxRecDepth 20000 in
theorem Append_T (k : Int) (A : Option Addr) (c : Nat) (b : List Int) (h : Dk w g S s) (hr : Kd.C (Kd.int .u8) w A b.length b) (hbl : b.length ≤ 100000000000) : Calls Try.prog 16 #[.pointer (some ⟨g, 0, none⟩), .int .i64 k, .slice A b.length c] w (Turned w g S (app s k b)) := by
  obtain ⟨bm, es, h⟩ := h
  have HI := Aside0.mk h
  have HR := Aside0.mk hr
  have hc3 := (blk_cell h.gc) 3
  cases hd : s.down with
  | true =>
    rw [hd] at hc3
    have HD := Aside0.mk hd
    clear h hr hd
    go_enter Try.func16, Try.ntmps16
    go_wp2
    go_ret
    unfold Turned app
    rw [if_pos HD.out]
    exact ⟨rfl, ⟨bm, es, HI.out.mono Fr.of⟩, Chg.refl _ _⟩
  | false =>
    rw [hd] at hc3
    have HD := Aside0.mk hd
    by_cases hk : k < 0 ∨ 999999 < k
    · have HK := Aside0.mk hk
      rcases hk with hk | hk
      all_goals
        first | have q1 : decide (k < 0) = true := decide_eq_true hk | (have q1 : decide (k < 0) = false := decide_eq_false (by omega); have q2 : decide (999999 < k) = true := decide_eq_true hk)
        clear h hr hd hk
        go_enter Try.func16, Try.ntmps16
        go_wp2
        go_ret
        unfold Turned app
        rw [if_neg (by rw [HD.out]; simp), if_pos HK.out]
        exact ⟨rfl, ⟨bm, es, HI.out.mono Fr.of⟩, Chg.refl _ _⟩
    · have HK := Aside0.mk hk
      have q1 : decide (k < 0) = false := decide_eq_false (by omega)
      have q2 : decide (999999 < k) = false := decide_eq_false (by omega)
      have hc1 := (blk_cell h.gc) 1
      have K := Aside0.mk (Size_T w.drew g S s ⟨bm, es, h.move (fun _ _ _ => rfl)⟩)
      have hsz := h.ok.size
      have e5 : IntKind.i64.wrap ((size s.M : Int) + (b.length : Int)) = ((size s.M + b.length : Nat) : Int) := by rw [IntWalk.i64_in _ (by omega)]; omega
      have HLT : Aside0 (g < w.heap.size) := ⟨blk_lt h.gc⟩
      obtain ⟨Z, hZ⟩ : ∃ Z, size s.M = Z := ⟨_, rfl⟩
      have HZ := Aside0.mk hZ
      rw [hZ] at K e5
      have HZB : Aside0 (Z ≤ 16777216) := ⟨by omega⟩
      have HBL := Aside0.mk hbl
      obtain ⟨cap, hcap⟩ : ∃ cap, s.cap = cap := ⟨_, rfl⟩
      have HCAP := Aside0.mk hcap
      rw [hcap] at hc1
      have hc1' : w.drew.cell? ⟨g, 1, none⟩ = some (.int .i64 cap) := hc1
      clear h hr hd hk hZ hsz hbl hcap
      go_enter Try.func16, Try.ntmps16
      go_wp2
      go_region_held3 (fun w' => w'.cell? ⟨g, 1, none⟩ = some (.int .i64 cap)) (first | go_keep | (exact pw_cell_below hb hc1'))
        (first
          | (go_at_call 26; refine K.out.mono ?_; rintro e w1 ⟨rfl, hb⟩; have HB := Aside0.mk hb; clear K))
      have HBW : Aside0 (Below w.heap.size w w1) := ⟨(below_drew (Below.refl w.heap.size w)).trans HB.out⟩
      have HI1 := Aside0.mk (HI.out.move (w1 := w1) (fun j _ hj => HBW.out.block j hj))
      have HR1 := Aside0.mk (Kd.C_below HR.out HBW.out)
      clear hc1 hc1' hc3 e5
      by_cases hc : cap < (Z : Int) + (b.length : Int)
      · have d : decide (cap < (Z : Int) + (b.length : Int)) = true := decide_eq_true hc
        have HC := Aside0.mk hc
        rw [d]
        clear hc d
        go_wp2
        go_ret
        unfold Turned app
        rw [if_neg (by rw [HD.out]; simp), if_neg HK.out, if_pos (by rw [HCAP.out, HZ.out]; exact HC.out)]
        exact ⟨rfl, ⟨bm, es, HI1.out.mono Fr.of⟩, Chg.ofBelow HBW.out⟩
      · have d : decide (cap < (Z : Int) + (b.length : Int)) = false := decide_eq_false hc
        have HC : Aside0 (¬ s.cap < (size s.M : Int) + b.length) := ⟨by rw [HCAP.out, HZ.out]; exact hc⟩
        have hg1 := HI1.out.gc
        have hm0 := (blk_cell hg1) 0
        have hl := look_I0 w1 g S s HI1.out k
        have HOK := Aside0.mk (ok_app HI.out.ok k b HK.out HC.out)
        have HAC := Aside0.mk (app_cases s k b HD.out HK.out HC.out)
        have hmir := HI.out.mir k
        rw [d]
        clear hc hg1 d
        cases hge : get es k with
        | some x =>
          obtain ⟨f, v, b0, sf⟩ := x
          rw [hge] at hl hmir
          simp only [Option.map_some, Option.getD_some, Ent.ptr] at hl hmir
          have HGE := Aside0.mk hge
          have hf := HI1.out.fc _ (get_mem hge)
          have hbv := HI1.out.fb _ (get_mem hge)
          dsimp only at hf hbv
          have hf0 := (blk_cell hf) 0
          have HF := Aside0.mk hf
          have HBV := Aside0.mk hbv
          have hok := HOK.out
          have hac := HAC.out
          rw [hmir] at hok hac
          simp only [Option.getD_some] at hok hac
          have hb0 : b0.length ≤ 16777216 := by have h1 : b0.length ≤ _ := size_get hmir; have := HI.out.ok.size; omega
          have HB0 := Aside0.mk hb0
          have HOK := Aside0.mk hok
          have HAC := Aside0.mk hac
          obtain ⟨i0, hinf⟩ : ∃ i0 : Unit, True := ⟨(), trivial⟩
          clear hge hmir hf hbv hok hac hb0 hinf i0
          go_wp2_with ((with_reducible refine gate_builtin (b := .append) (xs := #[.tmp 51, .tmp 52]) rfl ?_); at_builtin; refine at_append_BW w1 rfl (.tmp 51) (.tmp 52) 22 rfl Try.underlying22 infoB8 v b0 b A b.length c rfl rfl HBV.out HR1.out (by have := HB0.out; have := HBL.out; omega) ?_; intro v1 w2 hb hg hat; obtain ⟨A1, c1, rfl, _, _, _⟩ := hb.reads; have HBB := Aside0.mk hb; have HGG := Aside0.mk hg; have HATT := Aside0.mk hat; have hz2 := free_of ((hg.block f (blk_lt HF.out) (fun e => (HI1.out.ne_row (get_mem HGE.out) (get_mem HGE.out) e.symm).2.2 rfl)).trans HF.out) 0; have hq2 := (blk_cell ((hg.block f (blk_lt HF.out) (fun e => (HI1.out.ne_row (get_mem HGE.out) (get_mem HGE.out) e.symm).2.2 rfl)).trans HF.out)) 0; clear hb hg hat)
          have hX := HI1.out.appF HGE.out HBB.out HGG.out HATT.out HOK.out
          have HX := Aside0.mk hX.1
          have HY := Aside0.mk hX.2
          have hK2 := step_I _ g _ _ bm _ hX.1
          obtain ⟨T, hT⟩ : ∃ T, stepS { s with M := ins s.M k (b0 ++ b, sf) } = T := ⟨_, rfl⟩
          rw [hT] at hK2
          have HT := Aside0.mk hT
          obtain ⟨D, hDn⟩ : ∃ D, T.down = D := ⟨_, rfl⟩
          rw [hDn] at hK2
          have HDN := Aside0.mk hDn
          rw [List.length_append] at hK2
          have K2 := Aside0.mk hK2
          clear hX hT hDn hK2 hl hm0 hf0 hz2 hq2
          refine K2.out.mono ?_
          rintro e1 w3 ⟨rfl, hi, ha⟩
          have HI3 := Aside0.mk hi
          have HA := Aside0.mk ha
          clear hi ha K2
          have HFIN : Aside0 (Turned w g S (app s k b) (.returned (.int .i64 (if D = true then 51 else 0))) w3) := ⟨by
            unfold Turned
            have e0 := HAC.out
            simp only [HT.out, HDN.out] at e0
            rw [e0]
            have hc := (Chg.ofBelow (S := S) HBW.out).trans HY.out
            have hfr : ∀ j, Fr S w1 w2 j → Fr S w w3 j := fun j hj => by
              have hz := HA.out.2.1
              rw [World.size_setCell] at hz
              rcases hj with hj | hj
              · exact .inl hj
              · exact .inr ⟨by have := HBW.out.size; omega, by omega⟩
            rw [List.length_append] at hc
            exact ⟨rfl, ⟨bm, _, HI3.out.mono hfr⟩, hc.trans (HA.out.chg HI.out.sg)⟩⟩
          cases D with
          | true =>
            go_wp2
            go_ret
            exact HFIN.out
          | false =>
            go_wp2
            go_ret
            exact HFIN.out
        | none =>
          rw [hge] at hl hmir
          simp only [Option.map_none, Option.getD_none] at hl hmir
          have HGE := Aside0.mk hge
          have hok := HOK.out
          have hac := HAC.out
          rw [hmir] at hok hac
          simp only [Option.getD_none, List.nil_append] at hok hac
          have HOK := Aside0.mk hok
          have HAC := Aside0.mk hac
          have hbx := below_alloc (Below.refl w1.heap.size w1) (Obj.cells #[.slice none 0 0, .int .i64 0] 87)
          have hm1 := (blk_cell ((hbx.block g (blk_lt HI1.out.gc)).trans HI1.out.gc)) 0
          have HIM := Aside0.mk (HI1.out.im.alloc (Obj.cells #[.slice none 0 0, .int .i64 0] 87))
          have HR2 := Aside0.mk (Kd.C_below HR1.out hbx)
          have HF0 := Aside0.mk (heap_last w1 (Obj.cells #[.slice none 0 0, .int .i64 0] 87))
          have HBML : Aside0 (bm < w1.heap.size) := ⟨HI1.out.im.lt⟩
          clear hge hmir hok hac hbx
          go_wp2_with (first
            | (at_mapUpdate; refine at_put rfl _ _ _ 82 rfl Try.underlying82 Try.underlying3 rfl HIM.out k _ rfl rfl ?_; intro ob hob; have HO := Aside0.mk hob; have hf1 := (heap_set_other ob (show w1.heap.size ≠ bm by have := HBML.out; omega) (w1.alloc (Obj.cells #[.slice none 0 0, .int .i64 0] 87))).trans HF0.out; have HF1 := Aside0.mk hf1; have hq1 := (blk_cell hf1) 0; clear hob hf1)
            | ((with_reducible refine gate_builtin (b := .append) (xs := #[.tmp 51, .tmp 52]) rfl ?_); at_builtin; refine at_append_BW _ rfl (.tmp 51) (.tmp 52) 22 rfl Try.underlying22 infoB8 (.slice none 0 0) [] b A b.length c rfl rfl (BW.nil _) (C_setb HR2.out HIM.out ob) (by have := HBL.out; simp only [List.length_nil]; omega) ?_; intro v1 w2 hb hg hat; obtain ⟨A1, c1, rfl, _, _, _⟩ := hb.reads; have HBB := Aside0.mk hb; have HGG := Aside0.mk hg; have HATT := Aside0.mk hat; have hfg := (hg.block w1.heap.size (blk_lt HF1.out) (by simp [Value.ownBlock])).trans HF1.out; have hz2 := free_of hfg 0; have hq2 := (blk_cell hfg) 0; clear hb hg hat hfg))
          have hX := HI1.out.appN HGE.out HO.out (by have := HBB.out; rwa [List.nil_append] at this) HGG.out (by
            rcases HATT.out with e | e
            · exact .inl e
            · refine .inr (e.trans ?_)
              rw [size_set, World.size_alloc]) HOK.out
          have HX := Aside0.mk hX.1
          have HY := Aside0.mk hX.2
          have hK2 := step_I _ g _ _ bm _ hX.1
          obtain ⟨T, hT⟩ : ∃ T, stepS { s with M := ins s.M k (b, 0) } = T := ⟨_, rfl⟩
          rw [hT] at hK2
          have HT := Aside0.mk hT
          obtain ⟨D, hDn⟩ : ∃ D, T.down = D := ⟨_, rfl⟩
          rw [hDn] at hK2
          have HDN := Aside0.mk hDn
          try rw [List.nil_append] at hK2
          have K2 := Aside0.mk hK2
          clear hX hT hDn hK2 hl hm0 hm1 hz2 hq1 hq2
          refine K2.out.mono ?_
          rintro e1 w3 ⟨rfl, hi, ha⟩
          have HI3 := Aside0.mk hi
          have HA := Aside0.mk ha
          clear hi ha K2
          have HFIN : Aside0 (Turned w g S (app s k b) (.returned (.int .i64 (if D = true then 51 else 0))) w3) := ⟨by
            unfold Turned
            have e0 := HAC.out
            simp only [HT.out, HDN.out] at e0
            rw [e0]
            have hc := (Chg.ofBelow (S := S) HBW.out).trans HY.out
            have hfr : ∀ j, Fr S w1 w2 j → Fr S w w3 j := fun j hj => by
              have hz := HA.out.2.1
              rw [World.size_setCell] at hz
              rcases hj with hj | hj
              · exact .inl hj
              · exact .inr ⟨by have := HBW.out.size; omega, by omega⟩
            exact ⟨rfl, ⟨bm, _, HI3.out.mono hfr⟩, by
              have := HA.out
              exact hc.trans (this.chg HI.out.sg)⟩⟩
          cases D with
          | true =>
            go_wp2
            go_ret
            exact HFIN.out
          | false =>
            go_wp2
            go_ret
            exact HFIN.out
end Go.Proofs.Ytoimpjmoikjibaa.Dk
namespace Go.Proofs.Ytoimpjmoikjibaa.Dk
open Go Go.RowKit Go.ChangeMaps Go.Proofs.Ytoimpjmoikjibaa.IMap Go.Proofs.YtoimpjmoikjibaaW.PrintWords Go.Proofs.YtoimpjmoikjibaaW.PrintLast Go.Proofs.YtoimpjmoikjibaaW.PrintMore
set_option linter.unusedVariables false
set_option linter.unusedSimpArgs false
theorem ins_mid {pre post : Fls} {k : Int} {x : List Int × Nat} (h : Asc (pre ++ (k, x) :: post)) (y : List Int × Nat) : ins (pre ++ (k, x) :: post) k y = pre ++ (k, y) :: post := by
  induction pre with
  | nil => simp [ins]
  | cons p pre ih =>
    obtain ⟨h1, h2⟩ := List.pairwise_cons.1 h
    have hp : p.1 < k := h1 (k, x) (by simp)
    show ins (p :: (pre ++ (k, x) :: post)) k y = _
    rw [ins, if_neg (by omega), if_neg (by omega), ih h2]
    rfl
def afterC (b : List Int) (sf : Nat) (n : Int) : List Int := if sf < b.length then kept b sf n else b
theorem afterC_len (b : List Int) (sf : Nat) (n : Int) : (afterC b sf n).length ≤ b.length := by
  unfold afterC kept
  split
  · rw [List.length_take]; omega
  · exact Nat.le_refl _
theorem crashF_cons (k : Int) (b : List Int) (sf : Nat) (r : Fls) (keep : List Int) : crashF ((k, (b, sf)) :: r) keep = (k, (afterC b sf (keep.headD 0), (afterC b sf (keep.headD 0)).length)) :: crashF r (if sf < b.length then keep.tail else keep) := by
  rw [crashF]
  unfold afterC
  dsimp only
  split <;> rfl
theorem C_block {k : IntKind} {w w1 : World} {ad : Addr} {n : Nat} {l : List Int} (h : Kd.C (Kd.int k) w (some ad) n l) (hb : w1.heap[ad.block]? = w.heap[ad.block]?) : Kd.C (Kd.int k) w1 (some ad) n l := by
  refine ⟨h.1, h.2.1, fun hp => ?_⟩
  obtain ⟨ad', e, hc⟩ := h.2.2 hp
  cases e
  refine ⟨ad, rfl, fun j p hj => ?_⟩
  obtain ⟨cs, h1, h2, h3⟩ := hc j p hj
  refine ⟨cs, h1, h2, fun i u hu => ?_⟩
  have h4 := h3 i u hu
  have e : (ad.add (j * (Kd.int k).sz + i)).block = ad.block := by unfold Addr.add; split <;> rfl
  unfold World.cell? at h4 ⊢
  rw [e] at h4 ⊢
  rw [hb]
  exact h4
/-- A row of ints that was laid: its block. -/
theorem row_block {w : World} {base : Nat} {ok : Nat → Prop} {A : Option Addr} {n c : Nat} {l : List Int} (h : Kd.R (Kd.int .i64) 3 w base ok (.slice A n c) l) : ∀ ad, A = some ad → base ≤ ad.block ∧ ∃ cur, w.heap[ad.block]? = some (.cells cur 3 (0, 0)) := by
  rintro ad rfl
  obtain ⟨_, inner, ho, _⟩ := h
  rcases ho.2 with ⟨h1, _⟩ | ⟨g, cap, cur, h1, hb, hg, _⟩
  · cases h1
  · cases h1
    exact ⟨hb, cur, hg⟩
theorem BW.take {w : World} {A : Option Addr} {c : Nat} {xs : List Int} (h : BW w (.slice A xs.length c) xs) (n : Nat) (hn : n ≤ xs.length) : BW w (.slice A n c) (xs.take n) := by
  rcases h with ⟨h1, rfl⟩ | ⟨g, cap, cur, h1, hg, h2, h3, h4, h5⟩
  · cases h1
    obtain rfl : n = 0 := by simpa using hn
    exact .inl ⟨rfl, rfl⟩
  · cases h1
    refine .inr ⟨g, c, cur, by rw [List.length_take, Nat.min_eq_left hn], hg, by rw [List.length_take]; omega, h3, h4, ?_⟩
    have := congrArg (List.take n) h5
    rw [List.take_take, Nat.min_eq_left hn] at this
    rw [List.length_take, Nat.min_eq_left hn, this, bcells, bcells, List.map_take]
theorem two_bt01 (w1 : World) (f : Nat) (x y : Value) : At1 f w1 ((w1.setCell ⟨f, 0, none⟩ x).setCell ⟨f, 1, none⟩ y) := (At1.set w1 f 0 _).trans (At1.set _ f 1 _)
theorem two_bt10 (w1 : World) (f : Nat) (x y : Value) : At1 f w1 ((w1.setCell ⟨f, 1, none⟩ y).setCell ⟨f, 0, none⟩ x) := (At1.set w1 f 1 _).trans (At1.set _ f 0 _)
theorem two_at23 (w1 : World) (f : Nat) (x y : Value) : At1 f w1 ((w1.setCell ⟨f, 2, none⟩ x).setCell ⟨f, 3, none⟩ y) ∧ True := ⟨(At1.set w1 f 2 _).trans (At1.set _ f 3 _), trivial⟩
theorem R_lo {w : World} {e base : Nat} {ok : Nat → Prop} {v : Value} {l : List Int} (h : Kd.R (Kd.int .u8) e w base ok v l) : ∀ q, v.ownBlock = some q → base ≤ q := fun q hq => (h.2.choose_spec.1.lt q hq).1
theorem DkI.renew {wr W : World} {g bm : Nat} {S S' : Nat → Prop} {s : DS} {es : List (Int × Ent)} (h : DkI wr g S s bm es) {k : Int} {f sf : Nat} {v v5 : Value} {b b5 : List Int} (hge : get es k = some ⟨f, v, b, sf⟩)
    (hW : ∀ q, q < wr.heap.size → q ≠ f → W.heap[q]? = wr.heap[q]?) (hc : W.heap[f]? = some (.cells #[v5, .int .i64 (b5.length : Int)] 87 (0, 0))) (hb : BW W v5 b5) (hfr : ∀ q, v5.ownBlock = some q → wr.heap.size ≤ q)
    (hS : ∀ q, S q → S' q) (hS2 : ∀ q, wr.heap.size ≤ q → q < W.heap.size → S' q) (hlen : b5.length ≤ b.length) : DkI W g S' { s with M := ins s.M k (b5, b5.length) } bm (IMap.put es k ⟨f, v5, b5, b5.length⟩) := by
  have hmem := get_mem hge
  have hgM : get s.M k = some (b, sf) := by rw [h.mir k, hge]; rfl
  have hz := size_ins h.ok.asc k (b5, b5.length)
  rw [hgM] at hz
  dsimp only [Option.getD_some] at hz
  refine h.put (s' := { s with M := ins s.M k (b5, b5.length) }) k ⟨f, v5, b5, b5.length⟩ hS ((hW g (blk_lt h.gc) (h.ne_f hmem).1.symm).trans h.gc) ?_ hc hb ⟨hS _ (h.fs _ hmem).1, fun q hq => hS2 q (hfr q hq) (hb.lt q hq)⟩ (fun q hq hne => ?_) (fun q hq hne => ?_) rfl (ok_ins h.ok k b5 b5.length (ok_name h.ok hgM) (Nat.le_refl _) (by have := h.ok.size; omega))
  · rw [vals_put_same (e' := ⟨f, v5, b5, b5.length⟩) hge rfl]
    exact h.im.move (hW bm h.im.lt (h.ne_f hmem).2.symm)
  · have ha := h.apart hmem hq (fun e => hne e.symm)
    exact ⟨hW _ (blk_lt (h.fc q hq)) ha.1.symm, fun j hj => hW j ((h.fb q hq).lt j hj) (h.ne_row hq hmem hj).2.2⟩
  · have ha := h.apart hmem hq (fun e => hne e.symm)
    exact ⟨ha.1, fun j hj hjq => by have h1 := hfr j hj; have h2 := (h.fb q hq).lt j hjq; omega⟩
theorem crash_rel {w w1 wr w3 w5 W : World} {g bm f sf at_ at' i n5 : Nat} {S : Nat → Prop} {s : DS} {es' : List (Int × Ent)} {k : Int} {b' b5 keep : List Int} {v v5 : Value} {pre : Fls} {An : Option Addr}
    (hI : DkI wr g (Fr S w wr) { s with M := pre ++ (k, (b', sf)) :: s.M.drop (i + 1) } bm es') (hge : get es' k = some ⟨f, v, b', sf⟩) (hC : Chg S w wr) (hdr : s.M.drop i = (k, (b', sf)) :: s.M.drop (i + 1))
    (hP : at_ ≤ i ∧ pre.length = i ∧ crashF s.M keep = pre ++ crashF (s.M.drop i) (keep.drop at_)) (hb5 : b5 = afterC b' sf ((keep.drop at_).headD 0)) (hat : at' = if sf < b'.length then at_ + 1 else at_) (hn5 : b5.length = n5)
    (hNN : ∀ ad, An = some ad → wr.heap[ad.block]? = w1.heap[ad.block]?) (hnb : ∀ ad, An = some ad → ∃ cur, w1.heap[ad.block]? = some (.cells cur 3 (0, 0)))
    (hbw : BW w5 v5 b5) (hfr : ∀ q, v5.ownBlock = some q → w3.heap.size ≤ q) (hA3 : At1 f wr w3) (hb : Below w3.heap.size w3 w5) (hW : At1 f w5 W) (hc : W.heap[f]? = some (.cells #[v5, .int .i64 (n5 : Int)] 87 (0, 0))) :
    Aside0 (at' ≤ i + 1 ∧ (pre ++ [(k, (b5, b5.length))]).length = i + 1 ∧ crashF s.M keep = (pre ++ [(k, (b5, b5.length))]) ++ crashF (s.M.drop (i + 1)) (keep.drop at')) ∧
    Aside0 (DkI W g (Fr S w W) { s with M := (pre ++ [(k, (b5, b5.length))]) ++ s.M.drop (i + 1) } bm (IMap.put es' k ⟨f, v5, b5, b5.length⟩)) ∧ Aside0 (Chg S w W) ∧ Aside0 (∀ ad, An = some ad → W.heap[ad.block]? = w1.heap[ad.block]?) := by
  subst hn5
  have hmem := get_mem hge
  have hfl := blk_lt (hI.fc _ hmem)
  dsimp only at hfl
  have hs3 := hA3.2.1
  have hs5 := hb.size
  have hsW := hW.2.1
  have hq : ∀ q, q < wr.heap.size → q ≠ f → W.heap[q]? = wr.heap[q]? := fun q h1 h2 => (hW.2.2 q h2).trans ((hb.block q (by omega)).trans (hA3.2.2 q h2))
  have hvf : ∀ q, v5.ownBlock = some q → q ≠ f := fun q h1 e => by have := hfr q h1; omega
  have hbW : BW W v5 b5 := hbw.move fun q h1 => hW.2.2 q (hvf q h1)
  have hle : b5.length ≤ b'.length := by rw [hb5]; exact afterC_len _ _ _
  have h5 := hI.renew hge hq hc hbW (fun q h1 => by have := hfr q h1; omega) (S' := Fr S w W) (fun q h1 => by
    rcases h1 with h1 | h1
    · exact .inl h1
    · exact .inr ⟨h1.1, by omega⟩) (fun q h1 h2 => .inr ⟨by have := hC.1.size; omega, h2⟩) hle
  dsimp only at h5
  rw [ins_mid (hI.ok.asc)] at h5
  refine ⟨⟨by rw [hat]; have := hP.1; split <;> omega, by rw [List.length_append, hP.2.1]; rfl, ?_⟩, ⟨by rw [List.append_assoc]; exact h5⟩, ⟨⟨?_, ?_⟩⟩, ⟨fun ad h1 => ?_⟩⟩
  · rw [hP.2.2, hdr, crashF_cons, List.append_assoc, hat, ← hb5]
    congr 1
    show _ :: _ = _ :: _
    congr 2
    split
    · rw [List.tail_drop]
    · rfl
  · have h0 := hC.1
    exact ⟨hW.1.os.trans (hb.os.trans (hA3.1.os.trans h0.os)), hW.1.tape.trans (hb.tape.trans (hA3.1.tape.trans h0.tape)), hW.1.output.trans (hb.output.trans (hA3.1.output.trans h0.output)), by have := h0.size; omega, fun q h1 => absurd h1 (Nat.not_lt_zero _)⟩
  · intro q h1 h2
    have h0 := hC.1.size
    refine (hq q (by omega) (fun e => ?_)).trans (hC.2 q h1 h2)
    rcases (hI.fs _ hmem).1 with h3 | h3
    · exact h2 (by rw [e]; exact h3)
    · have h4 := h3.1
      dsimp only at h4
      omega
  · obtain ⟨cur, h2⟩ := hnb ad h1
    have h3 := (hNN ad h1).trans h2
    refine (hq _ (blk_lt h3) (fun e => ?_)).trans (hNN ad h1)
    rw [e] at h3
    have h4 := hI.fc _ hmem
    dsimp only at h4
    rw [h3] at h4
    simp only [Option.some.injEq, Obj.cells.injEq] at h4
    exact absurd h4.2.1 (by decide)
variable (w : World) (g : Nat) (S : Nat → Prop) (s : DS)
set_option maxHeartbeats 8000000 in
set_option maxRecDepth 20000 in
theorem Crash_T (A : Option Addr) (c : Nat) (keep : List Int) (h : Dk w g S s) (hr : Kd.C (Kd.int .i64) w A keep.length keep) (hS : ∀ ad, A = some ad → keep ≠ [] → ad.block < w.heap.size ∧ ¬ S ad.block) (hkl : keep.length ≤ 1000000000000) :
    Calls Try.prog 18 #[.pointer (some ⟨g, 0, none⟩), .slice A keep.length c] w fun e w' => e = .returned (.tuple #[]) ∧ Dk w' g (Fr S w w') (crash s keep) ∧ Chg S w w' := by
  obtain ⟨bm, es, h⟩ := h
  have hc0 := (blk_cell h.gc) 0
  have K := Aside0.mk (Keys_T (some bm) w)
  have hk : sortI (keys (vals Ent.ptr es)) = keys s.M := by rw [keys_vals, sortI_perm h.keysP, asc_sort h.ok.asc]
  have hK2 := Sorted_T bm _ w h.im (by have := h.len; simp [vals]; omega) (fun p hp => (h.keyed p hp).1) (fun p hp => (h.keyed p hp).2)
  rw [hk] at hK2
  have K2 := Aside0.mk hK2
  have HI := Aside0.mk h
  have HR := Aside0.mk hr
  have HS := Aside0.mk hS
  have HKL := Aside0.mk hkl
  have HML : Aside0 (s.M.length ≤ 1000000) := ⟨by have := asc_bound h.ok.asc h.ok.names; omega⟩
  clear h hk hK2 hr hS hkl
  go_enter Try.func18, Try.ntmps18
  go_wp2_with (fail)
  refine K.out.mono ?_
  rintro e0 w0 ⟨rfl, rfl⟩
  go_wp2_with (fail)
  refine K2.out.mono ?_
  rintro e1 w1 ⟨v, rfl, hrow, hb⟩
  obtain ⟨An, cn, rfl, hcn, hCn⟩ := Kd.R_reads hrow
  have hkl : (keys s.M).length = s.M.length := by simp [keys]
  rw [hkl] at hCn hcn hrow ⊢
  have HNB := Aside0.mk (row_block hrow)
  have HCN := Aside0.mk hCn
  have HB1 := Aside0.mk hb
  have HI1 := Aside0.mk ((HI.out.move (w1 := w1) (fun j _ hj => hb.block j hj)).mono (Fr.of (S := S) (w := w) (w' := w1)))
  clear hrow hcn hCn hb hkl K K2 hc0
  go_wp2
  go_loopg [4, 6, 7, 8, 16] s.M.length (fun kq v4 v6 v7 v8 v16 w' => ∃ (i at_ : Nat) (pre : Fls) (es' : List (Int × Ent)), v16 = .int .i64 (i : Int) ∧ v4 = .int .i64 (at_ : Int) ∧ Aside0 (i + kq = s.M.length) ∧ Aside0 (at_ ≤ i ∧ pre.length = i ∧ crashF s.M keep = pre ++ crashF (s.M.drop i) (keep.drop at_)) ∧ Aside0 (DkI w' g (Fr S w w') { s with M := pre ++ s.M.drop i } bm es') ∧ Aside0 (Chg S w w') ∧ Aside0 (∀ ad, An = some ad → w'.heap[ad.block]? = w1.heap[ad.block]?))
  case atStart => exact ⟨0, 0, [], es, rfl, rfl, ⟨by omega⟩, ⟨Nat.le_refl _, rfl, by rw [List.drop_zero, List.drop_zero, List.nil_append]⟩, HI1, ⟨Chg.ofBelow HB1.out⟩, ⟨fun _ _ => rfl⟩⟩
  case round =>
    clear HI1
    obtain ⟨i, at_, pre, es', rfl, rfl, HJ, HP, HI2, HC, HNN⟩ := hrel
    by_cases c1 : i < s.M.length
    · have e1 : decide (i < s.M.length) = true := decide_eq_true c1
      have HE5 : Aside0 (wrap64 ((i : Int) + 1) = ((i + 1 : Nat) : Int)) := ⟨by have := HML.out; unfold wrap64; omega⟩
      have HL := Aside0.mk c1
      have hdr : s.M.drop i = s.M[i] :: s.M.drop (i + 1) := List.drop_eq_getElem_cons c1
      obtain ⟨x, hx⟩ : ∃ x, s.M[i] = x := ⟨_, rfl⟩
      rw [hx] at hdr
      obtain ⟨k, b, sf⟩ := x
      have HDR := Aside0.mk hdr
      have hI := HI2.out
      rw [hdr] at hI
      have hgM : get (pre ++ (k, (b, sf)) :: s.M.drop (i + 1)) k = some (b, sf) := mem_get (asc_nodup hI.ok.asc) (by simp)
      have hmir := hI.mir k
      dsimp only at hmir
      rw [hgM] at hmir
      obtain ⟨⟨f, v, b', sf'⟩, hge, hbe⟩ := Option.map_eq_some_iff.1 hmir.symm
      simp only [Prod.mk.injEq] at hbe
      obtain ⟨rfl, rfl⟩ := hbe
      have hl := look_I0 wr g _ _ hI k
      rw [hge] at hl
      simp only [Option.map_some, Option.getD_some, Ent.ptr] at hl
      have hg0 := (blk_cell hI.gc) 0
      have hf := hI.fc _ (get_mem hge)
      have hbv := hI.fb _ (get_mem hge)
      dsimp only at hf hbv
      obtain ⟨Af, cf, rfl, hcl, hcm, hCf⟩ := hbv.reads
      have hf0 := (blk_cell hf) 0
      have hf1 := (blk_cell hf) 1
      have hz0 := free_of hf 0
      have hz1 := free_of hf 1
      have hsf := hI.ok.safe _ (get_mem hgM)
      dsimp only at hsf
      have hbl : b'.length ≤ 16777216 := by have h1 : b'.length ≤ _ := size_get hgM; have := hI.ok.size; dsimp only at this; omega
      obtain ⟨ad, hAn, _⟩ := HCN.out.2.2 (by omega)
      cases hAn
      have hn : wr.cell? (ad.add i) = some (.int .i64 k) := by
        obtain ⟨ad', e, hc⟩ := (C_block HCN.out (HNN.out ad rfl)).2.2 (by omega)
        cases e
        obtain ⟨cs, h1, h2, h3⟩ := hc i k (by rw [keys, List.getElem?_map, List.getElem?_eq_getElem c1, hx]; rfl)
        have h2' : cs = [Value.int .i64 k] := h2
        subst h2'
        have h4 : wr.cell? (ad.add (i * 1 + 0)) = some (.int .i64 k) := h3 0 _ rfl
        rwa [Nat.mul_one, Nat.add_zero] at h4
      have HI3 := Aside0.mk hI
      have HGE := Aside0.mk hge
      have HF := Aside0.mk hf
      have HBV := Aside0.mk hbv
      have HGM := Aside0.mk hgM
      have HSF := Aside0.mk hsf
      have HBL := Aside0.mk hbl
      have HCL := Aside0.mk hcl
      have HCF := Aside0.mk hCf
      clear hdr hx hI hgM hmir hge hf hbv hcl hcm hCf hsf hbl HI2
      obtain ⟨B5, hB5⟩ : ∃ B, B = afterC b' sf' ((keep.drop at_).headD 0) := ⟨_, rfl⟩
      obtain ⟨at', hat⟩ : ∃ a : Nat, a = if sf' < b'.length then at_ + 1 else at_ := ⟨_, rfl⟩
      have HB5 := Aside0.mk hB5
      have HAT := Aside0.mk hat
      obtain ⟨qb, hqb⟩ : ∃ q : Bool, decide (sf' < b'.length) = q := ⟨_, rfl⟩
      have HQB := Aside0.mk hqb
      clear hB5 hat
      go_wp2_with (fail)
      go_quiet (fail)
      go_upto_if 35 with (fail)
      go_cut [4, 6, 7, 8, 16] (fun v4 v6 v7 v8 v16 wx => v4 = .int .i64 (at' : Int) ∧ v7 = .pointer (some ⟨f, 0, none⟩) ∧ v16 = .int .i64 (i : Int) ∧ Aside0 (At1 f wr wx ∧ wx.heap[f]? = some (.cells #[.slice Af B5.length cf, .int .i64 (sf' : Int)] 87 (0, 0))) ∧ Aside0 (BW wx (.slice Af B5.length cf) B5) ∧ Aside0 (B5.length ≤ b'.length))
      case first =>
        clear hqb
        cases qb with
        | true =>
          have HCS : Aside0 (sf' < b'.length) := ⟨of_decide_eq_true HQB.out⟩
          have HE7 : Aside0 (wrap64 ((at_ : Int) + 1) = ((at_ + 1 : Nat) : Int)) := ⟨by have := HP.out.1; have := HL.out; have := HML.out; unfold wrap64; omega⟩
          by_cases ck : at_ < keep.length
          · have d2 : decide (at_ < keep.length) = true := decide_eq_true ck
            obtain ⟨adk, hA, _⟩ := HR.out.2.2 (by omega)
            cases hA
            have hne : keep ≠ [] := fun e => by rw [e] at ck; simp at ck
            obtain ⟨n, hnk⟩ : ∃ n, keep[at_] = n := ⟨_, rfl⟩
            have hkn : wr.cell? (adk.add at_) = some (.int .i64 n) := by
              obtain ⟨ad', e, hc⟩ := (C_block HR.out (HC.out.2 _ (HS.out adk rfl hne).1 (HS.out adk rfl hne).2)).2.2 (by omega)
              cases e
              obtain ⟨cs, h1, h2, h3⟩ := hc at_ n (by rw [List.getElem?_eq_getElem ck, hnk])
              have h2' : cs = [Value.int .i64 n] := h2
              subst h2'
              have h4 : wr.cell? (adk.add (at_ * 1 + 0)) = some (.int .i64 n) := h3 0 _ rfl
              rwa [Nat.mul_one, Nat.add_zero] at h4
            have hkd : (keep.drop at_).headD 0 = n := by rw [List.drop_eq_getElem_cons ck]; exact hnk
            have HNK := Aside0.mk hkd
            clear hnk hkd hne
            go_wp2_with (fail)
            obtain ⟨m, hm⟩ : ∃ m : Nat, m = b'.length - sf' := ⟨_, rfl⟩
            obtain ⟨j, hj⟩ : ∃ j : Nat, j = sf' + min n.toNat m := ⟨_, rfl⟩
            have q1 : IntKind.i64.wrap ((b'.length : Int) - (sf' : Int)) = (m : Int) := by rw [IntWalk.i64_in _ (by have := HBL.out; have := HSF.out; omega)]; have := HSF.out; omega
            have q2 : IntKind.i64.wrap ((sf' : Int) + min (max n 0) (m : Int)) = (j : Int) := by rw [IntWalk.i64_in _ (by have := HBL.out; have := HSF.out; omega)]; omega
            have hjb : j ≤ b'.length := by have := HSF.out; omega
            have hjc : j ≤ cf := Nat.le_trans hjb HCL.out
            have HJD : Aside0 (j = sf' + min n.toNat (b'.length - sf')) := ⟨by rw [hj, hm]⟩
            clear hm hj
            generalize hwq : wr.drewN _ = wq
            have HWQ : Aside0 (wq.heap = wr.heap ∧ At1 f wr wq) := ⟨by rw [← hwq]; exact ⟨rfl, At1.drewN (At1.refl f wr) _⟩⟩
            have hr0 : wq.cell? ⟨f, 0, none⟩ = some (.slice Af b'.length cf) := by rw [← hwq]; exact hf0
            have hr1 : wq.cell? ⟨f, 1, none⟩ = some (.int .i64 (sf' : Int)) := by rw [← hwq]; exact hf1
            have hr2 : wq.frozen? ⟨f, 0, none⟩ = false := by rw [← hwq]; exact hz0
            clear hwq
            go_big_region
            go_wp2_with (fail)
            go_meet
            have hB : B5 = b'.take j := by rw [HB5.out]; unfold afterC kept; rw [if_pos HCS.out, HNK.out, ← HJD.out]
            have hL : B5.length = j := by rw [hB, List.length_take]; exact Nat.min_eq_left hjb
            have hA3 : At1 f wr (wq.setCell ⟨f, 0, none⟩ (.slice Af j cf)).drew := At1.drew (HWQ.out.2.trans (At1.set wq f 0 _))
            refine ⟨(by rw [HAT.out, if_pos HCS.out]; exact congrArg _ HE7.out), rfl, rfl, ⟨hA3, by rw [hL]; exact box_set (o := 0) (by rw [HWQ.out.1]; exact HF.out) _⟩, ⟨?_⟩, ⟨by rw [hL]; exact hjb⟩⟩
            rw [hL, hB]
            exact (HBV.out.take j hjb).move (fun q hq => hA3.2.2 q ((HI3.out.ne_row (get_mem HGE.out) (get_mem HGE.out) (by rw [own_len (n' := b'.length) (c' := cf)] at hq; exact hq)).2.2))
          · have d2 : decide (at_ < keep.length) = false := decide_eq_false ck
            have HNK : Aside0 ((keep.drop at_).headD 0 = 0) := ⟨by rw [List.drop_eq_nil_of_le (by omega)]; rfl⟩
            clear ck
            go_wp2_with (fail)
            obtain ⟨m, hm⟩ : ∃ m : Nat, m = b'.length - sf' := ⟨_, rfl⟩
            have q1 : IntKind.i64.wrap ((b'.length : Int) - (sf' : Int)) = (m : Int) := by rw [IntWalk.i64_in _ (by have := HBL.out; have := HSF.out; omega)]; have := HSF.out; omega
            have q2 : IntKind.i64.wrap (sf' : Int) = (sf' : Int) := IntWalk.i64_in _ (by have := HBL.out; have := HSF.out; omega)
            have q3 : min (0 : Int) (m : Int) = 0 := by omega
            have q4 : max (0 : Int) 0 = 0 := rfl
            have hjb : sf' ≤ b'.length := HSF.out
            have hjc : sf' ≤ cf := Nat.le_trans hjb HCL.out
            have HJD : Aside0 (sf' = sf' + min (0 : Int).toNat (b'.length - sf')) := ⟨by simp⟩
            clear hm
            generalize hwq : wr.drewN _ = wq
            have HWQ : Aside0 (wq.heap = wr.heap ∧ At1 f wr wq) := ⟨by rw [← hwq]; exact ⟨rfl, At1.drewN (At1.refl f wr) _⟩⟩
            have hr0 : wq.cell? ⟨f, 0, none⟩ = some (.slice Af b'.length cf) := by rw [← hwq]; exact hf0
            have hr1 : wq.cell? ⟨f, 1, none⟩ = some (.int .i64 (sf' : Int)) := by rw [← hwq]; exact hf1
            have hr2 : wq.frozen? ⟨f, 0, none⟩ = false := by rw [← hwq]; exact hz0
            clear hwq
            go_big_region
            go_wp2_with (fail)
            go_meet
            have hB : B5 = b'.take sf' := by rw [HB5.out]; unfold afterC kept; rw [if_pos HCS.out, HNK.out, ← HJD.out]
            have hL : B5.length = sf' := by rw [hB, List.length_take]; exact Nat.min_eq_left hjb
            have hA3 : At1 f wr (wq.setCell ⟨f, 0, none⟩ (.slice Af sf' cf)).drew := At1.drew (HWQ.out.2.trans (At1.set wq f 0 _))
            refine ⟨(by rw [HAT.out, if_pos HCS.out]; exact congrArg _ HE7.out), rfl, rfl, ⟨hA3, by rw [hL]; exact box_set (o := 0) (by rw [HWQ.out.1]; exact HF.out) _⟩, ⟨?_⟩, ⟨by rw [hL]; exact hjb⟩⟩
            rw [hL, hB]
            exact (HBV.out.take sf' hjb).move (fun q hq => hA3.2.2 q ((HI3.out.ne_row (get_mem HGE.out) (get_mem HGE.out) (by rw [own_len (n' := b'.length) (c' := cf)] at hq; exact hq)).2.2))
        | false =>
          have cs : ¬ sf' < b'.length := of_decide_eq_false HQB.out
          have hB : B5 = b' := by rw [HB5.out]; unfold afterC; rw [if_neg cs]
          have ha : at' = at_ := by rw [HAT.out, if_neg cs]
          have HBe := Aside0.mk hB
          have HAe := Aside0.mk ha
          clear cs hB ha
          go_wp2_with (fail)
          go_meet
          have hA3 : At1 f wr (wr.drewN nq) := At1.drewN (At1.refl f wr) _
          refine ⟨(by rw [HAe.out]), rfl, rfl, ⟨hA3, by rw [HBe.out]; exact HF.out⟩, ⟨?_⟩, ⟨by rw [HBe.out]; exact Nat.le_refl _⟩⟩
          rw [HBe.out]
          exact HBV.out.move (fun q hq => hA3.2.2 q ((HI3.out.ne_row (get_mem HGE.out) (get_mem HGE.out) hq).2.2))
      case rest =>
        obtain ⟨rfl, rfl, rfl, HA3, HB3, HBL5⟩ := hcut
        have K3 := Clone_T Af cf B5 wc.drew (by obtain ⟨A9, c9, e9, _, _, h9⟩ := HB3.out.reads; simp only [Value.slice.injEq] at e9; obtain ⟨rfl, _, rfl⟩ := e9; exact Kd.C_below h9 (below_drew (Below.refl _ _))) (by have := HBL5.out; have := HCL.out; omega) (by have := HBL5.out; have := HBL.out; omega)
        have K3 := Aside0.mk K3
        have HF3 := Aside0.mk HA3.out.2
        clear hf0 hf1 hz0 hz1 hn hg0 hl e1
        have hf0 := (blk_cell HF3.out) 0
        have hf1 := (blk_cell HF3.out) 1
        have hz0 := free_of HF3.out 0
        have hz1 := free_of HF3.out 1
        go_wp2_with (fail)
        go_region_law (first
          | (go_simp; go_at_call 48; go_must (refine K3.out.mono ?_; rintro e w5 ⟨v5, rfl, hr5, hb5⟩; have hF5 := (hb5.block f (blk_lt HF3.out)).trans HF3.out; have hbw := BW.of_R hr5; obtain ⟨A5, c5, rfl, _, _, _⟩ := hbw.reads; have HR5 := Aside0.mk hbw; have HFR5 := Aside0.mk (R_lo hr5); have HB5' := Aside0.mk hb5; have hp0 := (blk_cell hF5) 0; have hp1 := (blk_cell hF5) 1; have hy0 := free_of hF5 0; have hy1 := free_of hF5 1; have HF5 := Aside0.mk hF5; clear K3 hr5 hb5 hF5 hbw)))
        all_goals go_wp2
        all_goals
          go_roundg (gk - 1)
          case measure => have := HJ.out; have := HL.out; omega
          case rel =>
            refine ⟨i + 1, at', pre ++ [(k, (B5, B5.length))], _, (by first | exact congrArg _ HE5.out | rfl), rfl, ⟨by have := HJ.out; have := HL.out; omega⟩, crash_rel (v5 := .slice A5 B5.length c5) (n5 := B5.length) HI3.out HGE.out HC.out HDR.out HP.out HB5.out HAT.out rfl HNN.out (fun ad h => (HNB.out ad h).2) HR5.out HFR5.out (At1.drew HA3.out.1) HB5'.out ?_ ?_⟩
            · first | with_reducible exact two_at01 w5 f _ _ | with_reducible exact two_at10 w5 f _ _ | with_reducible exact two_bt01 w5 f _ _ | with_reducible exact two_bt10 w5 f _ _
            · first | with_reducible exact two_set01 HF5.out _ _ | with_reducible exact two_set10 HF5.out _ _ | exact box_set (o := 1) (box_set (o := 0) HF5.out _) _
    · have e1 : decide (i < s.M.length) = false := decide_eq_false c1
      have hi : i = s.M.length := by have := HJ.out; omega
      have hfin : crashF s.M keep = pre := by have := HP.out.2.2; rw [hi, List.drop_length, crashF, List.append_nil] at this; exact this
      have HI3 := HI2.out
      rw [hi, List.drop_length, List.append_nil] at HI3
      have HF := Aside0.mk hfin
      have hz2 := free_of HI3.gc 2
      have hz3 := free_of HI3.gc 3
      have hc2 := (blk_cell HI3.gc) 2
      have hc3 := (blk_cell HI3.gc) 3
      have HI4 := Aside0.mk HI3
      clear hi hfin HI3 c1
      go_wp2
      go_end0
      have hA := (two_at23 wr g (.int .i64 (-1)) (.bool false)).1
      refine ⟨rfl, ⟨bm, es', ?_⟩, ?_⟩
      · have hok := HI4.out.ok
        have h5 := HI4.out.setG (w1 := (wr.setCell ⟨g, 2, none⟩ (.int .i64 (-1))).setCell ⟨g, 3, none⟩ (.bool false)) (s' := crash s keep) (by unfold crash; rw [HF.out]; exact box_set (o := 3) (box_set (o := 2) HI4.out.gc _) _) (fun q hq => hA.2.2 q hq) (by unfold crash; rw [HF.out]) (by unfold crash; rw [HF.out]; exact { hok with left0 := (by show (-1 : Int) ≤ -1; omega), left1 := (by show (-1 : Int) < _; omega) })
        exact h5.mono (fun q hq => by
          rcases hq with hq | hq
          · exact .inl hq
          · exact .inr ⟨hq.1, by rw [World.size_setCell, World.size_setCell]; exact hq.2⟩)
      · exact HC.out.trans (hA.chg HI.out.sg)
end Go.Proofs.Ytoimpjmoikjibaa.Dk
