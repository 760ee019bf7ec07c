/- The dock's calls, walked: Size, Names. -/
import Derived.Test.YtoimpjmoikjibaaDkC2
import Derived.Test.YtoimpjmoikjibaaKeysM
namespace Go.Proofs.Ytoimpjmoikjibaa.Dk
open Go Go.RowKit Go.ChangeMaps Go.Proofs.Ytoimpjmoikjibaa.IMap Go.Proofs.YtoimpjmoikjibaaW.PrintWords Go.Proofs.YtoimpjmoikjibaaW.PrintLast Go.Proofs.YtoimpjmoikjibaaW.PrintMore
set_option linter.unusedVariables false
set_option linter.unusedSimpArgs false
/-- The files' lengths of those that are no longer to come. -/
def done (left : Lit → Bool) (es : List (Int × Ent)) : Nat := (es.map fun p => if left (.int .i64 p.1) = true then 0 else p.2.b.length).sum
theorem done_le (left : Lit → Bool) (es : List (Int × Ent)) : done left es ≤ (es.map fun p => p.2.b.length).sum := by
  unfold done
  induction es with
  | nil => exact Nat.le_refl _
  | cons p es ih =>
    simp only [List.map_cons, List.sum_cons]
    split <;> omega
theorem done_step {left : Lit → Bool} {es : List (Int × Ent)} (hn : (keys es).Nodup) {k : Int} {e : Ent} (he : (k, e) ∈ es) (hl : left (.int .i64 k) = true) :
    done (fun z => left z && !z.sameKey (.int .i64 k)) es = done left es + e.b.length := by
  unfold done
  induction es with
  | nil => cases he
  | cons p es ih =>
    simp only [keys, List.map_cons, List.nodup_cons] at hn
    simp only [List.map_cons, List.sum_cons]
    have hs : ∀ x : Int, (Lit.int IntKind.i64 x).sameKey (.int .i64 k) = decide (x = k) := fun x => by simp [Lit.sameKey]
    rcases List.mem_cons.1 he with rfl | he
    · have hrest : (es.map fun p => if (left (.int .i64 p.1) && !(Lit.int IntKind.i64 p.1).sameKey (.int .i64 k)) = true then 0 else p.2.b.length) = es.map fun p => if left (.int .i64 p.1) = true then 0 else p.2.b.length := by
        apply List.map_congr_left
        intro q hq
        have : q.1 ≠ k := fun e => hn.1 (by rw [← e]; exact List.mem_map.2 ⟨q, hq, rfl⟩)
        rw [hs, decide_eq_false this]
        simp
      rw [hrest]
      simp only [hs, hl]
      simp
      omega
    · have : p.1 ≠ k := fun e' => hn.1 (by rw [e']; exact List.mem_map.2 ⟨_, he, rfl⟩)
      rw [ih hn.2 he]
      simp only [hs, decide_eq_false this]
      simp
      omega
theorem done_all {left : Lit → Bool} {es : List (Int × Ent)} (h : ∀ p ∈ es, left (.int .i64 p.1) = true) : done left es = 0 := by
  unfold done
  induction es with
  | nil => rfl
  | cons p es ih =>
    rw [List.map_cons, List.sum_cons, if_pos (h p (List.mem_cons_self ..)), ih (fun q hq => h q (List.mem_cons_of_mem _ hq))]
theorem done_none {left : Lit → Bool} {es : List (Int × Ent)} (h : ∀ kl, left kl = false) : done left es = (es.map fun p => p.2.b.length).sum := by
  unfold done
  congr 1
  apply List.map_congr_left
  intro p _
  rw [h, if_neg (by simp)]
section
variable {w : World} {g bm : Nat} {S : Nat → Prop} {s : DS} {es : List (Int × Ent)}
theorem DkI.perm (h : DkI w g S s bm es) : s.M.Perm (es.map fun p => (p.1, (p.2.b, p.2.s))) := by
  refine perm_of_get (asc_nodup h.ok.asc) ?_ fun k => ?_
  · have := h.nodup
    unfold keys at this ⊢
    rwa [List.map_map]
  · rw [h.mir k, ← get_vals (fun e : Ent => (e.b, e.s)) es k]
    rfl
theorem DkI.sizes (h : DkI w g S s bm es) : (es.map fun p => p.2.b.length).sum = size s.M := by
  rw [size_perm h.perm]
  unfold size
  rw [List.map_map]
  rfl
theorem DkI.keysP (h : DkI w g S s bm es) : (keys es).Perm (keys s.M) := by
  have := (h.perm.map Prod.fst).symm
  rw [List.map_map] at this
  exact this
theorem asc_sort {M : Fls} (h : Asc M) : sortI (keys M) = keys M := sortI_asc (by unfold keys; rw [List.pairwise_map]; exact h)
theorem asc_bound : ∀ {M : Fls} {lo hi : Int}, Asc M → (∀ p ∈ M, lo ≤ p.1 ∧ p.1 ≤ hi) → (M.length : Int) ≤ max 0 (hi - lo + 1)
  | [], lo, hi, _, _ => by simp; omega
  | p :: M, lo, hi, h, hb => by
    obtain ⟨h1, h2⟩ := List.pairwise_cons.1 h
    have h3 := asc_bound (lo := p.1 + 1) h2 (fun q hq => ⟨by have := h1 q hq; omega, (hb q (List.mem_cons_of_mem _ hq)).2⟩)
    have h4 := hb p (List.mem_cons_self ..)
    simp only [List.length_cons]
    omega
theorem DkI.len (h : DkI w g S s bm es) : es.length ≤ 1000000 := by
  have h1 := asc_bound h.ok.asc h.ok.names
  have h2 := h.perm.length_eq
  rw [List.length_map] at h2
  omega
theorem DkI.keyed (h : DkI w g S s bm es) : ∀ p ∈ vals Ent.ptr es, wfI p.1 = true ∧ ∃ f : Nat, p.2 = .pointer (some ⟨f, 0, none⟩) := by
  intro p hp
  obtain ⟨q, hq, rfl⟩ := List.mem_map.1 hp
  have hk : q.1 ∈ keys s.M := h.keysP.mem_iff.1 (List.mem_map.2 ⟨q, hq, rfl⟩)
  obtain ⟨r, hr, e⟩ := List.mem_map.1 hk
  have := h.ok.names r hr
  refine ⟨by simp only [wfI, decide_eq_true_eq]; omega, q.2.f, rfl⟩
end
variable (w : World) (g : Nat) (S : Nat → Prop) (s : DS)
set_option maxHeartbeats 4000000 in
set_option maxRecDepth 20000 in
theorem Size_T (h : Dk w g S s) : Calls Try.prog 26 #[.pointer (some ⟨g, 0, none⟩)] w fun e w' => e = .returned (.int .i64 (size s.M : Int)) ∧ Below w.heap.size w w' := by
  obtain ⟨bm, es, h⟩ := h
  obtain ⟨D, hown, hsz, hpm, hat, hhas⟩ := IM.owns h.im Try.underlying3 (by have := h.len; simp [vals]; omega) (fun p hp => (h.keyed p hp).1) (fun p hp => (h.keyed p hp).2)
  have hc0 := (blk_cell h.gc) 0
  have HI := Aside0.mk h
  have HAT := Aside0.mk hat
  have HHAS := Aside0.mk hhas
  have HLT : Aside0 (bm < w.heap.size) := ⟨h.im.lt⟩
  have HSZ := Aside0.mk h.sizes
  have HMX := Aside0.mk h.ok.size
  clear h hsz hpm hat hhas
  go_enter Try.func26, Try.ntmps26
  go_wp2_with (first
    | (at_range; refine wpList_range_own _ rfl _ 82 rfl 3 85 (Go.Maps.int_keyed Try.underlying3) Try.underlying82 _ bm _ _ rfl hown ?_; intro w0 hrg0 hg0 hs0)
    | go_in)
  go_frame
  have HB0 : Aside0 (Below w.heap.size w w0) := ⟨(Below.refl _ w).grown hg0 (Nat.le_refl _) (fun j hj => by cases hj)⟩
  have HLEFT : Aside0 (∀ p ∈ es, Maps.has D (.int .i64 p.1) = true) := ⟨fun p hp => (HHAS.out p.1).2 (by rw [keys_vals]; exact List.mem_map.2 ⟨p, hp, rfl⟩)⟩
  go_loopw [3] (fun v3 wr => ∃ (left : Lit → Bool) (cnt : Nat), v3 = .int .i64 (done left es : Int) ∧ wr.ranges Try.prog 3 Rp bm w.heap.size (vals Ent.ptr es).length D left cnt ∧ Aside0 (Below w.heap.size w wr)) (fun _ wr => wr.rangeLeft bm w.heap.size)
  case atStart => exact ⟨_, _, by rw [done_all HLEFT.out]; rfl, hrg0, HB0⟩
  case round =>
    obtain ⟨left, cnt, rfl, hrg, HB⟩ := hrel
    have hdl := done_le left es
    rw [HSZ.out] at hdl
    have HDL := Aside0.mk hdl
    clear hdl
    go_wp2_with (first
      | (at_next; refine wpList_next_ranges _ rfl _ rfl 3 (Go.Maps.int_keyed Try.underlying3) Rp (Value.int .i64) (fun f : Nat => Value.pointer (some ⟨f, 0, none⟩)) (fun key kl hkey => by obtain ⟨x, rfl, _⟩ := Maps.keyOf_int_inv Try.underlying3 hkey; exact ⟨x, rfl⟩) (fun v y hv => by obtain ⟨f, rfl, _⟩ := Rp_inv hv; exact ⟨f, rfl⟩) bm w.heap.size _ D left cnt rfl hrg ?_ ?_)
      | go_in)
    · intro _ hl0
      have hd : done left es = size s.M := (done_none hl0).trans HSZ.out
      go_wp2
      go_ret
      exact ⟨(show Ending.returned (.int .i64 (done left es : Int)) = _ by rw [hd]), HB.out⟩
    · intro x c kl yd yp w1 cnt1 hkey hlx hR hat hrg1 hlt hg1 hs1 hen
      obtain ⟨x', hx', rfl, _⟩ := Maps.keyOf_int_inv Try.underlying3 hkey
      cases hx'
      obtain ⟨c', hc', hy⟩ := Rp_inv hR
      cases hy
      obtain rfl : c = c' := by simpa using hc'
      obtain ⟨hm, _⟩ := HAT.out x (c : Int) hat
      rw [Int.toNat_natCast] at hm
      obtain ⟨⟨k', e⟩, he, hpe⟩ := List.mem_map.1 hm
      simp only [Prod.mk.injEq, Ent.ptr, Value.pointer.injEq, Option.some.injEq, Addr.mk.injEq, and_true] at hpe
      obtain ⟨rfl, hf⟩ := hpe
      have hfc := HI.out.fc _ he
      dsimp only at hfc
      rw [hf] at hfc
      obtain ⟨A, cc, hv, _, _, _⟩ := (HI.out.fb _ he).reads
      dsimp only at hv
      rw [hv] at hfc
      have hclt := blk_lt hfc
      have hfc1 : w1.heap[c]? = some (.cells #[.slice A e.b.length cc, .int .i64 (e.s : Int)] 87 (0, 0)) := by
        rw [hg1.block c (by have := HB.out.size; omega) (fun e => by have := Option.some.inj e; omega), HB.out.block c hclt]
        exact hfc
      have hf0 := (blk_cell hfc1) 0
      have hds := done_step (HI.out.nodup) he hlx
      have HB1 : Aside0 (Below w.heap.size w w1) := ⟨HB.out.grown hg1 HB.out.size (fun j hj => by cases hj; exact Nat.le_refl _)⟩
      have hle := done_le (fun z => left z && !z.sameKey (.int .i64 k')) es
      rw [HSZ.out, hds] at hle
      have e5 : wrap64 ((done left es : Int) + (e.b.length : Int)) = ((done left es + e.b.length : Nat) : Int) := by have := HMX.out; unfold wrap64; omega
      have HDS := Aside0.mk hds
      have HE5 := Aside0.mk e5
      have HRG := Aside0.mk hrg
      have HRG1 := Aside0.mk hrg1
      have HLT1 := Aside0.mk hlt
      clear hds hle e5 hkey hR hat hm he hf hfc hv hfc1 hclt hg1 hs1 hrg hrg1 hlt hlx hc'
      go_wp2
      go_roundw
      case rel => exact ⟨_, cnt1, by rw [HDS.out]; first | exact congrArg _ HE5.out | rfl, HRG1.out, HB1⟩
      case measure => rw [HRG1.out.left_eq, HRG.out.left_eq]; exact HLT1.out
set_option maxHeartbeats 4000000 in
set_option maxRecDepth 20000 in
theorem Names_T (h : Dk w g S s) : Calls Try.prog 23 #[.pointer (some ⟨g, 0, none⟩)] w fun e w' => ∃ v, e = .returned (.tuple #[v, .int .i64 (if s.down = true then 51 else 0)]) ∧ Kd.R (Kd.int .i64) 3 w' w.heap.size (fun _ => True) v (if s.down = true then [] else keys s.M) ∧ Below w.heap.size w w' := by
  obtain ⟨bm, es, h⟩ := h
  have hc0 := (blk_cell h.gc) 0
  have hc3 := (blk_cell h.gc) 3
  have K := Aside0.mk (Keys_T (some bm) w)
  have hk : sortI (keys (vals Ent.ptr es)) = keys s.M := by rw [keys_vals, sortI_perm h.keysP, asc_sort h.ok.asc]
  have K2 := Sorted_T bm _ w h.im (by have := h.len; simp [vals]; omega) (fun p hp => (h.keyed p hp).1) (fun p hp => (h.keyed p hp).2)
  rw [hk] at K2
  have K2 := Aside0.mk K2
  obtain ⟨D, hD⟩ : ∃ D, s.down = D := ⟨_, rfl⟩
  rw [hD] at hc3 ⊢
  clear h hk hD
  cases D with
  | true =>
    go_enter Try.func23, Try.ntmps23
    go_wp2
    go_ret2
    exact ⟨_, rfl, Kd.R_nil _ _ _ _ _, Below.refl _ _⟩
  | false =>
    go_enter Try.func23, Try.ntmps23
    go_wp2_with (fail)
    refine K.out.mono ?_
    rintro e0 w0 ⟨rfl, rfl⟩
    go_wp2_with (fail)
    refine K2.out.mono ?_
    rintro e1 w1 ⟨v, rfl, hr, hb⟩
    have HR := Aside0.mk hr
    have HB := Aside0.mk hb
    clear hr hb K K2
    go_wp2
    go_ret2
    exact ⟨_, rfl, HR.out, HB.out⟩
end Go.Proofs.Ytoimpjmoikjibaa.Dk
