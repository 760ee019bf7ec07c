/- The dock's calls, walked: Append. -/
import Derived.Test.YtoimpjmoikjibaaDkC4
namespace Go.Proofs.Ytoimpjmoikjibaa.Dk
open Go Go.RowKit Go.ChangeMaps Go.Proofs.Ytoimpjmoikjibaa.IMap Go.Proofs.YtoimpjmoikjibaaW.PrintWords Go.Proofs.YtoimpjmoikjibaaW.PrintLast Go.Proofs.YtoimpjmoikjibaaW.PrintMore
set_option linter.unusedVariables false
set_option linter.unusedSimpArgs false
theorem grown_chg {S : Nat → Prop} {w w1 : World} {row : Option Nat} (h : w.grownBy w1 row) (hS : ∀ k, row = some k → S k) : Chg S w w1 :=
  ⟨⟨h.os, h.tape, h.output, h.size, fun k hk => absurd hk (Nat.not_lt_zero _)⟩, fun k hk hn => h.block k hk (fun e => hn (hS k e.symm))⟩
section
variable {w1 w2 : World} {g bm : Nat} {S : Nat → Prop} {s : DS} {es : List (Int × Ent)}
theorem DkI.appF (h : DkI w1 g S s bm es) {k : Int} {f sf : Nat} {v v1 : Value} {b0 b : List Int} (hge : get es k = some ⟨f, v, b0, sf⟩) (hb : BW w2 v1 (b0 ++ b)) (hg : w1.grownBy w2 v.ownBlock) (hat : v1.ownBlock = v.ownBlock ∨ v1.ownBlock = some w1.heap.size)
    (hok : OK { s with M := ins s.M k (b0 ++ b, sf) }) : DkI (w2.setCell ⟨f, 0, none⟩ v1) g (Fr S w1 w2) { s with M := ins s.M k (b0 ++ b, sf) } bm (IMap.put es k ⟨f, v1, b0 ++ b, sf⟩) ∧ Chg S w1 (w2.setCell ⟨f, 0, none⟩ v1) := by
  have hmem := get_mem hge
  have hfl := blk_lt (h.fc _ hmem)
  dsimp only at hfl
  have hnr : ∀ j, j < w1.heap.size → j ≠ f → some j ≠ v.ownBlock → (w2.setCell ⟨f, 0, none⟩ v1).heap[j]? = w1.heap[j]? := fun j hj hjf hjr => (Below.heap_setCell w2 ⟨f, 0, none⟩ v1 j hjf).trans (hg.block j hj hjr)
  have hgl := blk_lt h.gc
  have hrow : ∀ j, v.ownBlock = some j → j ≠ g ∧ j ≠ bm ∧ j ≠ f := fun j hj => h.ne_row hmem hmem hj
  refine ⟨h.put (s' := { s with M := ins s.M k (b0 ++ b, sf) }) k ⟨f, v1, b0 ++ b, sf⟩ (fun x hx => .inl hx) ((hnr g hgl (h.ne_f hmem).1.symm (fun e => (hrow g e.symm).1 rfl)).trans h.gc) ?_ ?_ ?_ ⟨.inl (h.fs _ hmem).1, fun j hj => ?_⟩ (fun q hq hne => ?_) (fun q hq hne => ?_) rfl hok, ?_⟩
  · rw [vals_put_same (e' := ⟨f, v1, b0 ++ b, sf⟩) hge rfl]
    exact h.im.move (hnr bm h.im.lt (h.ne_f hmem).2.symm (fun e => (hrow bm e.symm).2.1 rfl))
  · exact box_set (o := 0) ((hg.block f hfl (fun e => (hrow f e.symm).2.2 rfl)).trans (h.fc _ hmem)) v1
  · refine hb.move fun j hj => Below.heap_setCell w2 ⟨f, 0, none⟩ v1 j ?_
    rcases hat with e | e
    · exact (hrow j (by rw [← e]; exact hj)).2.2
    · rw [e] at hj
      have := Option.some.inj hj
      show j ≠ f
      omega
  · rcases hat with e | e
    · exact .inl ((h.fs _ hmem).2 j (by show v.ownBlock = some j; rw [← e]; exact hj))
    · have h1 : v1.ownBlock = some j := hj
      have h2 := hb.lt j h1
      rw [e] at h1
      have := Option.some.inj h1
      exact .inr ⟨by omega, h2⟩
  · have ha := h.apart hmem hq (fun e => hne e.symm)
    exact ⟨hnr _ (blk_lt (h.fc q hq)) ha.1.symm (fun e => (h.ne_row hmem hq e.symm).2.2 rfl), fun j hj => hnr j ((h.fb q hq).lt j hj) (h.ne_row hq hmem hj).2.2 (fun e => ha.2 j e.symm hj)⟩
  · have ha := h.apart hmem hq (fun e => hne e.symm)
    refine ⟨ha.1, fun j hj hjq => ?_⟩
    rcases hat with e | e
    · exact ha.2 j (by show v.ownBlock = some j; rw [← e]; exact hj) hjq
    · have h1 : v1.ownBlock = some j := hj
      rw [e] at h1
      have := Option.some.inj h1
      have := (h.fb q hq).lt j hjq
      omega
  · exact (grown_chg hg (fun j hj => (h.fs _ hmem).2 j hj)).trans ((At1.set w2 f 0 v1).chg (h.fs _ hmem).1)
theorem DkI.appN (h : DkI w1 g S s bm es) {k : Int} {v1 : Value} {b : List Int} {ob : Obj} (hge : get es k = none)
    (him : IM .i64 (setBlock (w1.alloc (.cells #[.slice none 0 0, .int .i64 0] 87)) bm ob) bm (IMap.put (vals Ent.ptr es) k (.pointer (some ⟨w1.heap.size, 0, none⟩))))
    (hb : BW w2 v1 b) (hg : (setBlock (w1.alloc (.cells #[.slice none 0 0, .int .i64 0] 87)) bm ob).grownBy w2 none) (hat : v1.ownBlock = none ∨ v1.ownBlock = some (w1.heap.size + 1))
    (hok : OK { s with M := ins s.M k (b, 0) }) : DkI (w2.setCell ⟨w1.heap.size, 0, none⟩ v1) g (Fr S w1 w2) { s with M := ins s.M k (b, 0) } bm (IMap.put es k ⟨w1.heap.size, v1, b, 0⟩) ∧ Chg S w1 (w2.setCell ⟨w1.heap.size, 0, none⟩ v1) := by
  have hbl := h.im.lt
  have hsz3 : (setBlock (w1.alloc (.cells #[.slice none 0 0, .int .i64 0] 87)) bm ob).heap.size = w1.heap.size + 1 := by rw [size_set, World.size_alloc]
  have hnr : ∀ j, j < w1.heap.size → j ≠ bm → (w2.setCell ⟨w1.heap.size, 0, none⟩ v1).heap[j]? = w1.heap[j]? := fun j hj hjb =>
    (Below.heap_setCell w2 ⟨w1.heap.size, 0, none⟩ v1 j (by show j ≠ w1.heap.size; omega)).trans ((hg.block j (by omega) (by simp)).trans ((heap_set_other ob hjb _).trans (Below.heap_alloc w1 _ j hj)))
  have hw2 := hg.size
  refine ⟨h.put (s' := { s with M := ins s.M k (b, 0) }) k ⟨w1.heap.size, v1, b, 0⟩ (fun x hx => .inl hx) ((hnr g (blk_lt h.gc) (h.im.ne h.gc).symm).trans h.gc) ?_ ?_ ?_ ⟨.inr ⟨Nat.le_refl _, by show w1.heap.size < _; omega⟩, fun j hj => ?_⟩ (fun q hq hne => ?_) (fun q hq hne => ?_) rfl hok, ?_⟩
  · have := him.move (w1 := w2.setCell ⟨w1.heap.size, 0, none⟩ v1) ((Below.heap_setCell w2 ⟨w1.heap.size, 0, none⟩ v1 bm (by show bm ≠ w1.heap.size; omega)).trans (hg.block bm (by omega) (by simp)))
    rw [show (Value.pointer (some ⟨w1.heap.size, 0, none⟩)) = Ent.ptr ⟨w1.heap.size, v1, b, 0⟩ from rfl, put_vals] at this
    exact this
  · refine box_set (o := 0) ((hg.block w1.heap.size (by omega) (by simp)).trans ((heap_set_other ob (by omega) _).trans (heap_last w1 _))) v1
  · refine hb.move fun j hj => Below.heap_setCell w2 ⟨w1.heap.size, 0, none⟩ v1 j ?_
    rcases hat with e | e
    · rw [e] at hj; cases hj
    · rw [e] at hj
      have := Option.some.inj hj
      show j ≠ w1.heap.size
      omega
  · have h1 : v1.ownBlock = some j := hj
    have h2 := hb.lt j h1
    rcases hat with e | e
    · rw [e] at h1; cases h1
    · rw [e] at h1
      have := Option.some.inj h1
      exact .inr ⟨by omega, h2⟩
  · exact ⟨hnr _ (blk_lt (h.fc q hq)) (h.ne_f hq).2, fun j hj => hnr j ((h.fb q hq).lt j hj) (h.ne_row hq hq hj).2.1⟩
  · have h3 := blk_lt (h.fc q hq)
    refine ⟨by show w1.heap.size ≠ q.2.f; omega, fun j hj hjq => ?_⟩
    have h1 : v1.ownBlock = some j := hj
    have h4 := (h.fb q hq).lt j hjq
    rcases hat with e | e
    · rw [e] at h1; cases h1
    · rw [e] at h1
      have := Option.some.inj h1
      omega
  · refine ⟨⟨?_, ?_, ?_, ?_, fun k hk => absurd hk (Nat.not_lt_zero _)⟩, fun j hj hn => hnr j hj (fun e => hn (by rw [e]; exact h.sm))⟩
    · exact hg.os
    · exact hg.tape
    · exact hg.output
    · rw [World.size_setCell]; omega
end
theorem C_setb {w : World} {A : Option Addr} {b : List Int} {bm : Nat} {l : List (Int × Value)} (h : Kd.C (Kd.int .u8) w A b.length b) (hm : IM .i64 w bm l) (ob : Obj) : Kd.C (Kd.int .u8) (setBlock w bm ob) A b.length b := by
  refine ⟨h.1, h.2.1, fun hp => ?_⟩
  obtain ⟨ad, e, hc⟩ := h.2.2 hp
  refine ⟨ad, e, fun j p hj => ?_⟩
  obtain ⟨cs, h1, h2, h3⟩ := hc j p hj
  refine ⟨cs, h1, h2, fun i u hu => ?_⟩
  have h4 := h3 i u hu
  have hne : (ad.add (j * (Kd.int IntKind.u8).sz + i)).block ≠ bm := fun e => by
    obtain ⟨es, clk, hb, _⟩ := hm
    unfold World.cell? at h4
    rw [e, hb] at h4
    cases h4
  unfold World.cell? at h4 ⊢
  rw [heap_set_other ob hne]
  exact h4
theorem app_cases (s : DS) (k : Int) (b : List Int) (hd : s.down = false) (hk : ¬ (k < 0 ∨ 999999 < k)) (hc : ¬ s.cap < (size s.M : Int) + b.length) :
    app s k b = (if (stepS { s with M := ins s.M k ((((get s.M k).getD ([], 0)).1 ++ b), ((get s.M k).getD ([], 0)).2) }).down = true then 51 else 0, stepS { s with M := ins s.M k ((((get s.M k).getD ([], 0)).1 ++ b), ((get s.M k).getD ([], 0)).2) }) := by
  unfold app
  rw [if_neg (by rw [hd]; simp), if_neg hk, if_neg hc]
theorem ok_app {s : DS} (h : OK s) (k : Int) (b : List Int) (hk : ¬ (k < 0 ∨ 999999 < k)) (hc : ¬ s.cap < (size s.M : Int) + b.length) : OK { s with M := ins s.M k ((((get s.M k).getD ([], 0)).1 ++ b), ((get s.M k).getD ([], 0)).2) } := by
  have hz := size_ins h.asc k ((((get s.M k).getD ([], 0)).1 ++ b), ((get s.M k).getD ([], 0)).2)
  dsimp only at hz
  rw [List.length_append] at hz
  have hs : ((get s.M k).getD ([], 0)).2 ≤ ((get s.M k).getD ([], 0)).1.length := by
    cases hq : get s.M k with
    | none => simp
    | some x => exact h.safe _ (get_mem hq)
  exact ok_ins h k _ _ (by omega) (by rw [List.length_append]; omega) (by have := h.cap1; omega)
variable (w : World) (g : Nat) (S : Nat → Prop) (s : DS)
set_option maxHeartbeats 8000000 in
set_option maxRecDepth 20000 in
theorem Append_T (k : Int) (A : Option Addr) (c : Nat) (b : List Int) (h : Dk w g S s) (hr : Kd.C (Kd.int .u8) w A b.length b) (hbl : b.length ≤ 100000000000) : Calls Try.prog 16 #[.pointer (some ⟨g, 0, none⟩), .int .i64 k, .slice A b.length c] w (Turned w g S (app s k b)) := by
  obtain ⟨bm, es, h⟩ := h
  have HI := Aside0.mk h
  have HR := Aside0.mk hr
  have hc3 := (blk_cell h.gc) 3
  cases hd : s.down with
  | true =>
    rw [hd] at hc3
    have HD := Aside0.mk hd
    clear h hr hd
    go_enter Try.func16, Try.ntmps16
    go_wp2
    go_ret
    unfold Turned app
    rw [if_pos HD.out]
    exact ⟨rfl, ⟨bm, es, HI.out.mono Fr.of⟩, Chg.refl _ _⟩
  | false =>
    rw [hd] at hc3
    have HD := Aside0.mk hd
    by_cases hk : k < 0 ∨ 999999 < k
    · have HK := Aside0.mk hk
      rcases hk with hk | hk
      all_goals
        first | have q1 : decide (k < 0) = true := decide_eq_true hk | (have q1 : decide (k < 0) = false := decide_eq_false (by omega); have q2 : decide (999999 < k) = true := decide_eq_true hk)
        clear h hr hd hk
        go_enter Try.func16, Try.ntmps16
        go_wp2
        go_ret
        unfold Turned app
        rw [if_neg (by rw [HD.out]; simp), if_pos HK.out]
        exact ⟨rfl, ⟨bm, es, HI.out.mono Fr.of⟩, Chg.refl _ _⟩
    · have HK := Aside0.mk hk
      have q1 : decide (k < 0) = false := decide_eq_false (by omega)
      have q2 : decide (999999 < k) = false := decide_eq_false (by omega)
      have hc1 := (blk_cell h.gc) 1
      have K := Aside0.mk (Size_T w.drew g S s ⟨bm, es, h.move (fun _ _ _ => rfl)⟩)
      have hsz := h.ok.size
      have e5 : IntKind.i64.wrap ((size s.M : Int) + (b.length : Int)) = ((size s.M + b.length : Nat) : Int) := by rw [IntWalk.i64_in _ (by omega)]; omega
      have HLT : Aside0 (g < w.heap.size) := ⟨blk_lt h.gc⟩
      obtain ⟨Z, hZ⟩ : ∃ Z, size s.M = Z := ⟨_, rfl⟩
      have HZ := Aside0.mk hZ
      rw [hZ] at K e5
      have HZB : Aside0 (Z ≤ 16777216) := ⟨by omega⟩
      have HBL := Aside0.mk hbl
      obtain ⟨cap, hcap⟩ : ∃ cap, s.cap = cap := ⟨_, rfl⟩
      have HCAP := Aside0.mk hcap
      rw [hcap] at hc1
      have hc1' : w.drew.cell? ⟨g, 1, none⟩ = some (.int .i64 cap) := hc1
      clear h hr hd hk hZ hsz hbl hcap
      go_enter Try.func16, Try.ntmps16
      go_wp2
      go_region_held3 (fun w' => w'.cell? ⟨g, 1, none⟩ = some (.int .i64 cap)) (first | go_keep | (exact pw_cell_below hb hc1'))
        (first
          | (go_at_call 26; refine K.out.mono ?_; rintro e w1 ⟨rfl, hb⟩; have HB := Aside0.mk hb; clear K))
      have HBW : Aside0 (Below w.heap.size w w1) := ⟨(below_drew (Below.refl w.heap.size w)).trans HB.out⟩
      have HI1 := Aside0.mk (HI.out.move (w1 := w1) (fun j _ hj => HBW.out.block j hj))
      have HR1 := Aside0.mk (Kd.C_below HR.out HBW.out)
      clear hc1 hc1' hc3 e5
      by_cases hc : cap < (Z : Int) + (b.length : Int)
      · have d : decide (cap < (Z : Int) + (b.length : Int)) = true := decide_eq_true hc
        have HC := Aside0.mk hc
        rw [d]
        clear hc d
        go_wp2
        go_ret
        unfold Turned app
        rw [if_neg (by rw [HD.out]; simp), if_neg HK.out, if_pos (by rw [HCAP.out, HZ.out]; exact HC.out)]
        exact ⟨rfl, ⟨bm, es, HI1.out.mono Fr.of⟩, Chg.ofBelow HBW.out⟩
      · have d : decide (cap < (Z : Int) + (b.length : Int)) = false := decide_eq_false hc
        have HC : Aside0 (¬ s.cap < (size s.M : Int) + b.length) := ⟨by rw [HCAP.out, HZ.out]; exact hc⟩
        have hg1 := HI1.out.gc
        have hm0 := (blk_cell hg1) 0
        have hl := look_I0 w1 g S s HI1.out k
        have HOK := Aside0.mk (ok_app HI.out.ok k b HK.out HC.out)
        have HAC := Aside0.mk (app_cases s k b HD.out HK.out HC.out)
        have hmir := HI.out.mir k
        rw [d]
        clear hc hg1 d
        cases hge : get es k with
        | some x =>
          obtain ⟨f, v, b0, sf⟩ := x
          rw [hge] at hl hmir
          simp only [Option.map_some, Option.getD_some, Ent.ptr] at hl hmir
          have HGE := Aside0.mk hge
          have hf := HI1.out.fc _ (get_mem hge)
          have hbv := HI1.out.fb _ (get_mem hge)
          dsimp only at hf hbv
          have hf0 := (blk_cell hf) 0
          have HF := Aside0.mk hf
          have HBV := Aside0.mk hbv
          have hok := HOK.out
          have hac := HAC.out
          rw [hmir] at hok hac
          simp only [Option.getD_some] at hok hac
          have hb0 : b0.length ≤ 16777216 := by have h1 : b0.length ≤ _ := size_get hmir; have := HI.out.ok.size; omega
          have HB0 := Aside0.mk hb0
          have HOK := Aside0.mk hok
          have HAC := Aside0.mk hac
          obtain ⟨i0, hinf⟩ : ∃ i0 : Unit, True := ⟨(), trivial⟩
          clear hge hmir hf hbv hok hac hb0 hinf i0
          go_wp2_with ((with_reducible refine gate_builtin (b := .append) (xs := #[.tmp 51, .tmp 52]) rfl ?_); at_builtin; refine at_append_BW w1 rfl (.tmp 51) (.tmp 52) 22 rfl Try.underlying22 infoB8 v b0 b A b.length c rfl rfl HBV.out HR1.out (by have := HB0.out; have := HBL.out; omega) ?_; intro v1 w2 hb hg hat; obtain ⟨A1, c1, rfl, _, _, _⟩ := hb.reads; have HBB := Aside0.mk hb; have HGG := Aside0.mk hg; have HATT := Aside0.mk hat; have hz2 := free_of ((hg.block f (blk_lt HF.out) (fun e => (HI1.out.ne_row (get_mem HGE.out) (get_mem HGE.out) e.symm).2.2 rfl)).trans HF.out) 0; have hq2 := (blk_cell ((hg.block f (blk_lt HF.out) (fun e => (HI1.out.ne_row (get_mem HGE.out) (get_mem HGE.out) e.symm).2.2 rfl)).trans HF.out)) 0; clear hb hg hat)
          have hX := HI1.out.appF HGE.out HBB.out HGG.out HATT.out HOK.out
          have HX := Aside0.mk hX.1
          have HY := Aside0.mk hX.2
          have hK2 := step_I _ g _ _ bm _ hX.1
          obtain ⟨T, hT⟩ : ∃ T, stepS { s with M := ins s.M k (b0 ++ b, sf) } = T := ⟨_, rfl⟩
          rw [hT] at hK2
          have HT := Aside0.mk hT
          obtain ⟨D, hDn⟩ : ∃ D, T.down = D := ⟨_, rfl⟩
          rw [hDn] at hK2
          have HDN := Aside0.mk hDn
          rw [List.length_append] at hK2
          have K2 := Aside0.mk hK2
          clear hX hT hDn hK2 hl hm0 hf0 hz2 hq2
          refine K2.out.mono ?_
          rintro e1 w3 ⟨rfl, hi, ha⟩
          have HI3 := Aside0.mk hi
          have HA := Aside0.mk ha
          clear hi ha K2
          have HFIN : Aside0 (Turned w g S (app s k b) (.returned (.int .i64 (if D = true then 51 else 0))) w3) := ⟨by
            unfold Turned
            have e0 := HAC.out
            simp only [HT.out, HDN.out] at e0
            rw [e0]
            have hc := (Chg.ofBelow (S := S) HBW.out).trans HY.out
            have hfr : ∀ j, Fr S w1 w2 j → Fr S w w3 j := fun j hj => by
              have hz := HA.out.2.1
              rw [World.size_setCell] at hz
              rcases hj with hj | hj
              · exact .inl hj
              · exact .inr ⟨by have := HBW.out.size; omega, by omega⟩
            rw [List.length_append] at hc
            exact ⟨rfl, ⟨bm, _, HI3.out.mono hfr⟩, hc.trans (HA.out.chg HI.out.sg)⟩⟩
          cases D with
          | true =>
            go_wp2
            go_ret
            exact HFIN.out
          | false =>
            go_wp2
            go_ret
            exact HFIN.out
        | none =>
          rw [hge] at hl hmir
          simp only [Option.map_none, Option.getD_none] at hl hmir
          have HGE := Aside0.mk hge
          have hok := HOK.out
          have hac := HAC.out
          rw [hmir] at hok hac
          simp only [Option.getD_none, List.nil_append] at hok hac
          have HOK := Aside0.mk hok
          have HAC := Aside0.mk hac
          have hbx := below_alloc (Below.refl w1.heap.size w1) (Obj.cells #[.slice none 0 0, .int .i64 0] 87)
          have hm1 := (blk_cell ((hbx.block g (blk_lt HI1.out.gc)).trans HI1.out.gc)) 0
          have HIM := Aside0.mk (HI1.out.im.alloc (Obj.cells #[.slice none 0 0, .int .i64 0] 87))
          have HR2 := Aside0.mk (Kd.C_below HR1.out hbx)
          have HF0 := Aside0.mk (heap_last w1 (Obj.cells #[.slice none 0 0, .int .i64 0] 87))
          have HBML : Aside0 (bm < w1.heap.size) := ⟨HI1.out.im.lt⟩
          clear hge hmir hok hac hbx
          go_wp2_with (first
            | (at_mapUpdate; refine at_put rfl _ _ _ 82 rfl Try.underlying82 Try.underlying3 rfl HIM.out k _ rfl rfl ?_; intro ob hob; have HO := Aside0.mk hob; have hf1 := (heap_set_other ob (show w1.heap.size ≠ bm by have := HBML.out; omega) (w1.alloc (Obj.cells #[.slice none 0 0, .int .i64 0] 87))).trans HF0.out; have HF1 := Aside0.mk hf1; have hq1 := (blk_cell hf1) 0; clear hob hf1)
            | ((with_reducible refine gate_builtin (b := .append) (xs := #[.tmp 51, .tmp 52]) rfl ?_); at_builtin; refine at_append_BW _ rfl (.tmp 51) (.tmp 52) 22 rfl Try.underlying22 infoB8 (.slice none 0 0) [] b A b.length c rfl rfl (BW.nil _) (C_setb HR2.out HIM.out ob) (by have := HBL.out; simp only [List.length_nil]; omega) ?_; intro v1 w2 hb hg hat; obtain ⟨A1, c1, rfl, _, _, _⟩ := hb.reads; have HBB := Aside0.mk hb; have HGG := Aside0.mk hg; have HATT := Aside0.mk hat; have hfg := (hg.block w1.heap.size (blk_lt HF1.out) (by simp [Value.ownBlock])).trans HF1.out; have hz2 := free_of hfg 0; have hq2 := (blk_cell hfg) 0; clear hb hg hat hfg))
          have hX := HI1.out.appN HGE.out HO.out (by have := HBB.out; rwa [List.nil_append] at this) HGG.out (by
            rcases HATT.out with e | e
            · exact .inl e
            · refine .inr (e.trans ?_)
              rw [size_set, World.size_alloc]) HOK.out
          have HX := Aside0.mk hX.1
          have HY := Aside0.mk hX.2
          have hK2 := step_I _ g _ _ bm _ hX.1
          obtain ⟨T, hT⟩ : ∃ T, stepS { s with M := ins s.M k (b, 0) } = T := ⟨_, rfl⟩
          rw [hT] at hK2
          have HT := Aside0.mk hT
          obtain ⟨D, hDn⟩ : ∃ D, T.down = D := ⟨_, rfl⟩
          rw [hDn] at hK2
          have HDN := Aside0.mk hDn
          try rw [List.nil_append] at hK2
          have K2 := Aside0.mk hK2
          clear hX hT hDn hK2 hl hm0 hm1 hz2 hq1 hq2
          refine K2.out.mono ?_
          rintro e1 w3 ⟨rfl, hi, ha⟩
          have HI3 := Aside0.mk hi
          have HA := Aside0.mk ha
          clear hi ha K2
          have HFIN : Aside0 (Turned w g S (app s k b) (.returned (.int .i64 (if D = true then 51 else 0))) w3) := ⟨by
            unfold Turned
            have e0 := HAC.out
            simp only [HT.out, HDN.out] at e0
            rw [e0]
            have hc := (Chg.ofBelow (S := S) HBW.out).trans HY.out
            have hfr : ∀ j, Fr S w1 w2 j → Fr S w w3 j := fun j hj => by
              have hz := HA.out.2.1
              rw [World.size_setCell] at hz
              rcases hj with hj | hj
              · exact .inl hj
              · exact .inr ⟨by have := HBW.out.size; omega, by omega⟩
            exact ⟨rfl, ⟨bm, _, HI3.out.mono hfr⟩, by
              have := HA.out
              exact hc.trans (this.chg HI.out.sg)⟩⟩
          cases D with
          | true =>
            go_wp2
            go_ret
            exact HFIN.out
          | false =>
            go_wp2
            go_ret
            exact HFIN.out
end Go.Proofs.Ytoimpjmoikjibaa.Dk
