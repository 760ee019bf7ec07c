/- A row of bytes of the program's own, whose block may be longer than its capacity (what f.b[:n:n] leaves). -/
import Derived.Test.YtoimpjmoikjibaaProg
import Derived.Test.YtoimpjmoikjibaaWMore
import Derived.Test.YtoimpjmoikjibaaWWords
import Derived.Laws.AppendOwn
import Derived.KernelRfl
import Derived.OwnWalk
import Derived.WalkKit
import Derived.WalkMore
import Derived.WalkSpells
import Derived.Maps.AppendAt
import Derived.Laws.OwnMore
import Derived.Lib.SlBytesConst
import Derived.Laws.Slices
namespace Go.Proofs.Ytoimpjmoikjibaa.Dk
open Go Go.RowKit Go.Proofs.YtoimpjmoikjibaaW.PrintWords Go.Proofs.YtoimpjmoikjibaaW.PrintLast Go.Proofs.YtoimpjmoikjibaaW.PrintMore
set_option linter.unusedVariables false
set_option linter.unusedSimpArgs false
theorem free_of {w : World} {g : Nat} {cs : Array Value} {t : TypeId} (h : w.heap[g]? = some (.cells cs t (0, 0))) (o : Nat) : w.frozen? ⟨g, o, none⟩ = false := by simp [World.frozen?, h]
theorem heap_last (w : World) (o : Obj) : (w.alloc o).heap[w.heap.size]? = some o := by show (w.heap.push _)[w.heap.size]? = _; simp
theorem box_set {w : World} {b t o : Nat} {cs : Array Value} (h : w.heap[b]? = some (.cells cs t (0, 0))) (v : Value) : (w.setCell ⟨b, o, none⟩ v).heap[b]? = some (.cells (cs.set! o v) t (0, 0)) := by
  obtain ⟨hlt, hv⟩ := Array.getElem?_eq_some_iff.1 h
  simp [World.setCell, Array.getElem?_modify, h]
theorem addr0 (g j : Nat) : (⟨g, 0, none⟩ : Addr).add j = ⟨g, j, none⟩ := by unfold Addr.add; split <;> simp_all
def bcells (xs : List Int) : List Value := xs.map (Value.int .u8)
/-- What a row of bytes is. -/
def BW (w : World) (v : Value) (xs : List Int) : Prop :=
  (v = .slice none 0 0 ∧ xs = []) ∨ ∃ g cap cur, v = .slice (some ⟨g, 0, none⟩) xs.length cap ∧ w.heap[g]? = some (.cells cur 5 (0, 0)) ∧ xs.length ≤ cap ∧ cap ≤ maxLen ∧ cap ≤ cur.size ∧ cur.toList.take xs.length = bcells xs
theorem BW.nil (w : World) : BW w (.slice none 0 0) [] := .inl ⟨rfl, rfl⟩
theorem BW.move {w w1 : World} {v : Value} {xs : List Int} (h : BW w v xs) (hm : ∀ k, v.ownBlock = some k → w1.heap[k]? = w.heap[k]?) : BW w1 v xs := by
  rcases h with h | ⟨g, cap, cur, rfl, hg, r⟩
  · exact .inl h
  · exact .inr ⟨g, cap, cur, rfl, (hm g rfl).trans hg, r⟩
theorem BW.lt {w : World} {v : Value} {xs : List Int} (h : BW w v xs) : ∀ k, v.ownBlock = some k → k < w.heap.size := by
  intro k hk
  rcases h with ⟨rfl, _⟩ | ⟨g, cap, cur, rfl, hg, _⟩
  · simp [Value.ownBlock] at hk
  · simp [Value.ownBlock] at hk
    subst hk
    exact (Array.getElem?_eq_some_iff.1 hg).1
theorem BW.ne {w : World} {v : Value} {xs : List Int} (h : BW w v xs) {b t : Nat} {cs : Array Value} {fz : Nat × Nat} (hb : w.heap[b]? = some (.cells cs t fz)) (ht : t ≠ 5) : ∀ k, v.ownBlock = some k → k ≠ b := by
  intro k hk e
  rcases h with ⟨rfl, _⟩ | ⟨g, cap, cur, rfl, hg, _⟩
  · simp [Value.ownBlock] at hk
  · simp [Value.ownBlock] at hk
    subst hk
    subst e
    rw [hg] at hb
    cases hb
    exact ht rfl
theorem BW.ne_map {w : World} {v : Value} {xs : List Int} (h : BW w v xs) {b : Nat} {es : Array MapEntry} {c : Nat} (hb : w.heap[b]? = some (.map es c)) : ∀ k, v.ownBlock = some k → k ≠ b := by
  intro k hk e
  rcases h with ⟨rfl, _⟩ | ⟨g, cap, cur, rfl, hg, _⟩
  · simp [Value.ownBlock] at hk
  · simp [Value.ownBlock] at hk
    subst hk
    subst e
    rw [hg] at hb
    cases hb
/-- Its shape, and its cells read. -/
theorem BW.reads {w : World} {v : Value} {xs : List Int} (h : BW w v xs) : ∃ A c, v = .slice A xs.length c ∧ xs.length ≤ c ∧ c ≤ maxLen ∧ Kd.C (Kd.int .u8) w A xs.length xs := by
  rcases h with ⟨rfl, rfl⟩ | ⟨g, cap, cur, rfl, hg, h1, h2, h3, h4⟩
  · exact ⟨none, 0, rfl, Nat.le_refl _, Nat.zero_le _, rfl, by simp, fun hp => by simp at hp⟩
  · refine ⟨some ⟨g, 0, none⟩, cap, rfl, h1, h2, rfl, by simp only [maxLen] at h2; omega, fun hp => ⟨_, rfl, fun j p hj => ⟨[.int .u8 p], rfl, rfl, fun i u hu => ?_⟩⟩⟩
    match i, hu with
    | 0, hu =>
      cases hu
      have hlt : j < xs.length := (List.getElem?_eq_some_iff.1 hj).1
      have := (blk_cell hg) j
      have hc : cur[j]? = some (Value.int .u8 p) := by
        have h5 := congrArg (fun x => x[j]?) h4
        simp only [bcells, List.getElem?_map, hj, Option.map_some, List.getElem?_take, if_pos hlt, Array.getElem?_toList] at h5
        exact h5
      rw [hc] at this
      show w.cell? ((⟨g, 0, none⟩ : Addr).add (j * 1 + 0)) = _
      rw [Nat.mul_one, Nat.add_zero, addr0]
      exact this
theorem BW.of_R {w : World} {base : Nat} {ok : Nat → Prop} {v : Value} {xs : List Int} (h : Kd.R (Kd.int .u8) 5 w base ok v xs) : BW w v xs := by
  obtain ⟨_, inner, ho, hr⟩ := h
  have hin : inner = bcells xs := by
    have hl : inner.length = xs.length * 1 := hr.1
    apply List.ext_getElem?
    intro j
    by_cases hj : j < xs.length
    · have this : (inner.drop (j * 1)).take 1 = [Value.int .u8 xs[j]] := hr.2 j _ (List.getElem?_eq_getElem hj)
      have h1 : inner[j]? = some (Value.int .u8 xs[j]) := by
        have h2 := congrArg (fun x => x[0]?) this
        simpa [List.getElem?_take, List.getElem?_drop] using h2
      rw [h1]
      simp [bcells, hj]
    · rw [List.getElem?_eq_none (by omega), List.getElem?_eq_none (by simp [bcells]; omega)]
  subst hin
  rcases ho.2 with ⟨rfl, h0⟩ | ⟨g, cap, cur, rfl, _, hg, h1, h2, h3, h4⟩
  · exact .inl ⟨rfl, List.eq_nil_of_length_eq_zero h0⟩
  · refine .inr ⟨g, cap, cur, rfl, hg, h1, h2, by rw [h3]; show cap ≤ cap * 1; omega, ?_⟩
    have h5 : cur.toList.take (xs.length * 1) = bcells xs := h4
    rwa [Nat.mul_one] at h5
/-- The first n of it, with no room behind. -/
theorem BW.cut {w : World} {A : Option Addr} {c : Nat} {xs : List Int} (h : BW w (.slice A xs.length c) xs) (n : Nat) (hn : n ≤ xs.length) : BW w (.slice A n n) (xs.take n) := by
  rcases h with ⟨h1, rfl⟩ | ⟨g, cap, cur, h1, hg, h2, h3, h4, h5⟩
  · cases h1
    obtain rfl : n = 0 := by simpa using hn
    exact .inl ⟨rfl, rfl⟩
  · cases h1
    refine .inr ⟨g, n, cur, by rw [List.length_take, Nat.min_eq_left hn], hg, by rw [List.length_take]; omega, by omega, by omega, ?_⟩
    have := congrArg (List.take n) h5
    rw [List.take_take, Nat.min_eq_left hn] at this
    rw [List.length_take, Nat.min_eq_left hn, this, bcells, bcells, List.map_take]
section
variable {P : Program} (w : World)
theorem run_append_BW (t ty : TypeId) (i : TypeInfo) (ht : P.underlying t = some (.slice 5)) (hi : P.info? 5 = some i) (hz : i.zero = some (.int .u8 0)) (hsize : i.size = 1) (hby : i.bytes = 1)
    (v : Value) (xs : List Int) (hown : BW w v xs) (a : Addr) (m c : Nat) (ys : List Int) (hl : ys.length = m) (hnews : ∀ j u, (bcells ys)[j]? = some u → w.cell? (a.add j) = some u) (h63 : xs.length + m ≤ 1000000000000) :
    ∃ v' w', (Builtin.append_ #[t, t] ty #[v, .slice (some a) m c]).run P w = .ok v' w' ∧ BW w' v' (xs ++ ys) ∧ w.grownBy w' v.ownBlock ∧ (v'.ownBlock = v.ownBlock ∨ v'.ownBlock = some w.heap.size) := by
  have hnl : (bcells ys).length = m * i.size := by rw [hsize]; simp [bcells, hl]
  have hone : ∀ u ∈ bcells ys, u.oneCell' = true := by
    intro u hu
    obtain ⟨y, _, rfl⟩ := List.mem_map.1 hu
    rfl
  have hcells : bcells (xs ++ ys) = bcells xs ++ bcells ys := by simp [bcells]
  have hbl : (bcells xs).length = xs.length := by simp [bcells]
  have hyl : (bcells ys).length = m := by simp [bcells, hl]
  have grown : ∀ (old : Nat), old < xs.length + m → ∀ (row : Option Nat),
      BW (w.drew.alloc (.cells ((bcells xs).toArray ++ (bcells ys).toArray ++ Builtin.zeroCells (Value.int .u8 0).cells (grownCap w (xs.length + m) old 5 - (xs.length + m))) 5)) (.slice (some ⟨w.heap.size, 0, none⟩) (xs.length + m) (grownCap w (xs.length + m) old 5)) (xs ++ ys) ∧
      w.grownBy (w.drew.alloc (.cells ((bcells xs).toArray ++ (bcells ys).toArray ++ Builtin.zeroCells (Value.int .u8 0).cells (grownCap w (xs.length + m) old 5 - (xs.length + m))) 5)) row := by
    intro old ho row
    have hge := grownCap_ge w (xs.length + m) old 5
    have hcm : grownCap w (xs.length + m) old 5 ≤ maxLen := grownCap_le_maxLen w (xs.length + m) old 5 (by simp only [maxLen]; omega)
    refine ⟨.inr ⟨w.heap.size, _, _, by rw [List.length_append, hl], heap_alloc_new w.drew _, by rw [List.length_append, hl]; exact hge, hcm, ?_, ?_⟩, ⟨rfl, rfl, rfl, by simp, fun k hk _ => heap_alloc_old w.drew _ hk⟩⟩
    · simp only [Array.size_append, List.size_toArray, size_zeroCells, hbl, hyl, Value.cells]
      simp
      omega
    · rw [hcells]
      simp only [Array.toList_append, List.append_assoc]
      rw [← List.append_assoc, List.take_left' (by simp [bcells, hl])]
  rcases hown with ⟨rfl, rfl⟩ | ⟨g, cap, cur, rfl, hg, hnc, hcm, hcs, htake⟩
  · by_cases hm : m = 0
    · obtain rfl : ys = [] := List.eq_nil_of_length_eq_zero (hl.trans hm)
      subst hm
      refine ⟨.slice none 0 0, w, ?_, BW.nil w, ⟨rfl, rfl, rfl, Nat.le_refl _, fun _ _ _ => rfl⟩, .inl rfl⟩
      simp [Builtin.append_, run_underlying ht, sizeOf, typeInfo, hi, Builtin.lenOf, Builtin.firstCells, loadCells, loadCellsFrom]
    · have hr := run_append_nil (P := P) w t ty 5 i (.int .u8 0) ht hi hz a m c (bcells ys) hnl hnews (by omega) (by simp only [List.length_nil] at h63; omega) (by rw [hby]; simp only [List.length_nil] at h63; omega)
      have hgr := grown 0 (by simp; omega) (Value.ownBlock (.slice none 0 0))
      simp only [List.length_nil, Nat.zero_add, List.nil_append, bcells, List.map_nil, Array.empty_append] at hgr hr ⊢
      exact ⟨_, _, hr, hgr.1, hgr.2, .inr rfl⟩
  · by_cases hroom : xs.length + m ≤ cap
    · have hfit : xs.length * i.size + (bcells ys).length ≤ cur.size := by rw [hyl, hsize]; omega
      have hr := run_append_room (P := P) w t ty 5 i ht hi g xs.length cap cur hg a m c (bcells ys) hnl hnews hone hroom hfit
      refine ⟨_, _, hr, .inr ⟨g, cap, _, by rw [List.length_append, hl], setRow_heap w g cur _ 5 _ hg, by rw [List.length_append, hl]; exact hroom, hcm, ?_, ?_⟩, ⟨rfl, rfl, rfl, by simp, fun k _ hk => setRow_other w g k _ (fun e => hk (by simp [Value.ownBlock, e]))⟩, .inl rfl⟩
      · simp only [List.size_toArray, List.length_append, List.length_take, List.length_drop, Array.length_toList, hsize, hyl]
        omega
      · rw [hsize, Nat.mul_one, htake, hcells, List.length_append, hl]
        exact List.take_left' (by simp [bcells, hl])
    · have holds : ∀ j u, (bcells xs)[j]? = some u → w.cell? ((⟨g, 0, none⟩ : Addr).add j) = some u := by
        intro j u hu
        rw [addr0, (blk_cell hg) j]
        rw [← htake, List.getElem?_take] at hu
        split at hu
        · simpa using hu
        · cases hu
      have hr := run_append_grow (P := P) w t ty 5 i (.int .u8 0) ht hi hz ⟨g, 0, none⟩ xs.length cap (bcells xs) (by rw [hsize, hbl, Nat.mul_one]) holds a m c (bcells ys) hnl hnews (by omega) (by omega) (growslice_fits (by omega) (by rw [hby]; omega))
      have hgr := grown cap (by omega) (Value.ownBlock (.slice (some ⟨g, 0, none⟩) xs.length cap))
      exact ⟨_, _, hr, hgr.1, hgr.2, .inr rfl⟩
theorem at_append_BW {ops : Array Oper} {rest : List Oper} {o : Oper} {a : Act} {Q : Exit → Act → World → Prop} (hgd : o.guard = none) (s x : Operand) (t : TypeId)
    (ho : o.op = .call { callee := .builtin .append, args := #[s, x], argTypes := #[t, t] }) (ht : P.underlying t = some (.slice 5)) (hinfo : (P.info? 5).map (fun i => (i.zero, i.size, i.bytes)) = some (some (.int .u8 0), 1, 1))
    (v : Value) (xs ys : List Int) (A : Option Addr) (m c : Nat) (hs : a.eval s = v) (hx : a.eval x = .slice A m c) (HO : BW w v xs) (HR : Kd.C (Kd.int .u8) w A m ys) (hl : xs.length + m ≤ 1000000000000)
    (h : ∀ v1 w1, BW w1 v1 (xs ++ ys) → w.grownBy w1 v.ownBlock → (v1.ownBlock = v.ownBlock ∨ v1.ownBlock = some w.heap.size) → wpList P ops Q rest (a.put o.dst v1) w1) : wpList P ops Q (o :: rest) a w := by
  obtain ⟨i, hi, hzz⟩ := Option.map_eq_some_iff.1 hinfo
  simp only [Prod.mk.injEq] at hzz
  obtain ⟨hz0, hz1, hz2⟩ := hzz
  have hm : ys.length = m := HR.1
  have hrun : ∃ v1 w1, (Builtin.append_ #[t, t] o.type #[v, .slice A m c]).run P w = .ok v1 w1 ∧ BW w1 v1 (xs ++ ys) ∧ w.grownBy w1 v.ownBlock ∧ (v1.ownBlock = v.ownBlock ∨ v1.ownBlock = some w.heap.size) := by
    rcases A with _ | ad
    · have h0 : m = 0 := by
        rcases Nat.eq_zero_or_pos m with h0 | h0
        · exact h0
        · obtain ⟨ad, h, _⟩ := HR.2.2 h0
          cases h
      subst h0
      obtain rfl : ys = [] := List.eq_nil_of_length_eq_zero hm
      refine ⟨v, w, ?_, by rw [List.append_nil]; exact HO, World.grownBy.refl w _, .inl rfl⟩
      rcases HO with ⟨rfl, _⟩ | ⟨g, cap, cur, rfl, _, hnc, _⟩
      · simp [Builtin.append_, run_underlying ht, sizeOf, typeInfo, hi, Builtin.lenOf, Builtin.firstCells]
      · simp [Builtin.append_, run_underlying ht, sizeOf, typeInfo, hi, Builtin.lenOf, Builtin.firstCells, hnc, storeCells]
    · refine run_append_BW w t o.type i ht hi hz0 hz1 hz2 v xs HO ad m c ys hm (fun j u hu => ?_) hl
      simp only [bcells, List.getElem?_map, Option.map_eq_some_iff] at hu
      obtain ⟨p, hp, rfl⟩ := hu
      obtain ⟨ad', he, hc⟩ := HR.2.2 (by have := (List.getElem?_eq_some_iff.1 hp).1; omega)
      cases he
      obtain ⟨cs, h1, h2, h3⟩ := hc j p hp
      have h2' : cs = [Value.int .u8 p] := h2
      subst h2'
      have this : w.cell? (ad.add (j * 1 + 0)) = some (.int .u8 p) := h3 0 _ rfl
      rwa [Nat.mul_one, Nat.add_zero] at this
  obtain ⟨v', w', hr, h2, h3, h4⟩ := hrun
  refine wpList_plain hgd fun K' hK' => ?_
  unfold Oper.wp execOp
  simp only [ho, resolve, invoke, builtin, Sem.run_bind, Sem.run_pure, Result.andThen_ok, List.map_toArray, List.map_cons, List.map_nil, hs, hx, hr]
  exact hK' _ _ (h v' w' h2 h3 h4)
end
end Go.Proofs.Ytoimpjmoikjibaa.Dk
namespace Go.Proofs.Ytoimpjmoikjibaa.Dk
open Go Go.RowKit Go.Proofs.YtoimpjmoikjibaaW.PrintWords Go.Proofs.YtoimpjmoikjibaaW.PrintLast Go.Proofs.YtoimpjmoikjibaaW.PrintMore
set_option linter.unusedVariables false
set_option linter.unusedSimpArgs false
theorem infoB8 : (Try.prog.info? 5).map (fun i => (i.zero, i.size, i.bytes)) = some (some (.int .u8 0), 1, 1) := by kernel_rfl
def slices_Clone_byte_byte.f (l0 : List Int) : Option (List Int) := if l0.length < 140737488355328 then some l0 else none
set_option maxHeartbeats 8000000 in
set_option maxRecDepth 100000 in
theorem slices_Clone_some (A0 : Addr) (c0 : Nat) (l0 : List Int) (r : List Int) (w : World) (hr0 : Kd.C (Kd.int .u8) w (some A0) l0.length l0) (hc0 : l0.length ≤ c0) (h : ((some (([] : List Int) : List Int)).bind fun y136 => (if y136.length + l0.length < 140737488355328 then (some (y136 ++ l0)) else (none))) = some r) :
    Calls Try.prog 48 #[.slice (some A0) l0.length c0] w fun e w' => ∃ v0_ : Value, e = .returned (v0_) ∧ Kd.R (Kd.int .u8) 5 w' w.heap.size (fun _ => True) v0_ r ∧ Below w.heap.size w w' := by
  have HR0 := Aside0.mk hr0
  have HC0 := Aside0.mk hc0
  clear hr0 hc0
  have HB := Aside0.mk (Below.refl w.heap.size w)
  have H : ((some (([] : List Int) : List Int)).bind fun y136 => (if y136.length + l0.length < 140737488355328 then (some (y136 ++ l0)) else (none))) = some r := h
  clear h
  obtain ⟨y136, hy136⟩ : ∃ y_ : List Int, y_ = (([] : List Int)) := ⟨_, rfl⟩
  replace H : (if y136.length + l0.length < 140737488355328 then (some (y136 ++ l0)) else (none)) = some r := by first | (rw [hy136]; with_reducible exact H) | (have H2_ := (Option.bind_some _ _).symm.trans H; rw [hy136]; with_reducible exact H2_) | (have H2_ := (Option.bind_some _ _).symm.trans H; with_reducible exact H2_) | with_reducible exact H | (rw [hy136]; exact H) | exact H
  have Ny136 := Aside0.mk hy136
  clear hy136
  by_cases c2 : y136.length + l0.length < 140737488355328
  · rw [if_pos c2] at H
    have LMc2 := Aside0.mk c2
    clear c2
    obtain ⟨y139, hy139⟩ : ∃ y_ : List Int, y_ = (y136 ++ l0) := ⟨_, rfl⟩
    replace H : (some y139) = some r := by first | (rw [hy139]; with_reducible exact H) | (have H2_ := (Option.bind_some _ _).symm.trans H; rw [hy139]; with_reducible exact H2_) | (have H2_ := (Option.bind_some _ _).symm.trans H; with_reducible exact H2_) | with_reducible exact H | (rw [hy139]; exact H) | exact H
    have Ny139 := Aside0.mk hy139
    clear hy139
    obtain rfl := Option.some.inj H
    have hnil := fun w => Lib.run_eql_slice_nil (P := Try.prog) w 22 5 (some A0) l0.length c0 0 0 Try.underlying22
    go_enter Try.func48, Try.ntmps48
    go_wp2_with (first | ((with_reducible refine gate_dst (N := 5) rfl ?_); refine Kd.R_lit (Kd.int .u8) _ 5 ?hg (N := 5) ?hd (xs := ([] : List Int)) (inner := []) (ok := fun _ => True) (okp := fun _ => True) ?hr ?hp (fun _ hk => hk) trivial (Below.refl _ _) (Nat.le_refl _) (by simp) ?_; (case hd => rfl); (case hg => rfl); (case hr => first | (go_simp; done) | (go_simp; rfl)); (case hp => exact (Reps.none _ _)); intro v137 w3 ho4 hb hg_ hnew_; clear hg_ hnew_; (first | rw [← Ny136.out] at ho4 | (simp only [Int.reduceToNat] at ho4; rw [← Ny136.out] at ho4)); have n0_ := Aside0.mk (Kd.R_lower ho4 (below_size (by repeat (first | (with_reducible first | exact HB.out | apply below_alloc | apply pw_below_drewN | apply below_drew1) | exact HB.out)))); have n1_ := Aside0.mk (below_step (by repeat (first | (with_reducible first | exact HB.out | apply below_alloc | apply pw_below_drewN | apply below_drew1) | exact HB.out)) hb); clear HB; have HO138 := n0_; have HB := n1_; clear n0_ n1_; clear hb ho4) | ((with_reducible refine gate_builtin (b := .append) (xs := #[.tmp 5, .tmp 6]) rfl ?_); at_builtin; refine Kd.R_append_rows (Kd.int .u8) (w0 := w) w.heap.size rfl (.tmp 5) (.tmp 6) 22 5 (.int .u8 0) 1 rfl Try.underlying22 infoB8 rfl (by decide) (by omega) v137 y136 l0 _ _ _ (fun _ => True) (fun _ => False) rfl rfl ?aO ?aR (fun _ _ h => h) (fun _ h => h.elim) ?aF ?aB ?aS ?aL ?_; (case aR => repeat (first | exact (Kd.C_below HR0.out HB.out) | (with_reducible refine Kd.C_alloc ?_ _) | (with_reducible refine Kd.C_drewN ?_ _) | (with_reducible refine Kd.C_drew ?_))); (case aB => exact (by repeat (first | (with_reducible first | exact HB.out | apply below_alloc | apply pw_below_drewN | apply below_drew1) | exact HB.out))); (case aF => exact (fun _ _ => trivial)); (case aO => exact (by (with_reducible repeat (first | apply Kd.R_alloc | apply Kd.R_drewN | apply Kd.R_drew)); exact HO138.out)); (case aS => exact (below_size (by repeat (first | (with_reducible first | exact HB.out | apply below_alloc | apply pw_below_drewN | apply below_drew1) | exact HB.out)))); (case aL => have := LMc2.out; omega); intro v140 w5 ho hb hg hat; rw [← Ny139.out] at ho; have n0_ := Aside0.mk (hb); have n1_ := Aside0.mk (ho); clear HB; clear HO138; have HB := n0_; have HO141 := n1_; clear n0_ n1_; clear ho hb hg hat))
    go_ret
    exact ⟨_, by first | rfl | (simp [errW_none, errW_some] <;> rfl) | (simp [*, errW_none, errW_some] <;> rfl), by (with_reducible repeat (first | apply Kd.R_alloc | apply Kd.R_drewN | apply Kd.R_drew)); exact HO141.out, by repeat (first | (with_reducible first | exact HB.out | apply below_alloc | apply pw_below_drewN | apply below_drew1) | exact HB.out)⟩
  · rw [if_neg c2] at H
    exact absurd H (by simp)

set_option maxHeartbeats 8000000 in
theorem slices_Clone_none (n c : Nat) (w : World) :
    Calls Try.prog 48 #[.slice none n c] w fun e w' => ∃ v0_ : Value, e = .returned (v0_) ∧ Kd.R (Kd.int .u8) 5 w' w.heap.size (fun _ => True) v0_ [] ∧ Below w.heap.size w w' := by
  have hnil := fun w => Lib.run_eql_slice_nil (P := Try.prog) w 22 5 none n c 0 0 Try.underlying22
  go_enter Try.func48, Try.ntmps48
  go_wp2
  go_ret
  exact ⟨_, rfl, Kd.R_nil _ _ _ _ _, Below.refl _ _⟩
theorem slices_Clone_byte_byte.calls (A0 : Option Addr) (c0 : Nat) (l0 : List Int) (r : List Int) (w : World) (hr0 : Kd.C (Kd.int .u8) w A0 l0.length l0) (hc0 : l0.length ≤ c0) (h : slices_Clone_byte_byte.f l0 = some r) :
    Calls Try.prog 48 #[.slice A0 l0.length c0] w fun e w' => ∃ v0_ : Value, e = .returned (v0_) ∧ Kd.R (Kd.int .u8) 5 w' w.heap.size (fun _ => True) v0_ r ∧ Below w.heap.size w w' := by
  unfold slices_Clone_byte_byte.f at h
  split at h
  · rename_i hl
    obtain rfl := Option.some.inj h
    cases A0 with
    | none =>
      obtain rfl : l0 = [] := by
        cases l0 with
        | nil => rfl
        | cons x l => obtain ⟨ad, e, _⟩ := hr0.2.2 (by simp); cases e
      exact slices_Clone_none _ _ w
    | some ad => exact slices_Clone_some ad c0 l0 l0 w hr0 hc0 (by simp [hl])
  · cases h

theorem Clone_T (A : Option Addr) (c : Nat) (l : List Int) (w : World) (hr : Kd.C (Kd.int .u8) w A l.length l) (hc : l.length ≤ c) (hl : l.length ≤ 1000000000000) :
    Calls Try.prog 48 #[.slice A l.length c] w fun e w' => ∃ v, e = .returned v ∧ Kd.R (Kd.int .u8) 5 w' w.heap.size (fun _ => True) v l ∧ Below w.heap.size w w' :=
  slices_Clone_byte_byte.calls A c l l w hr hc (by unfold slices_Clone_byte_byte.f; rw [if_pos (by omega)])
end Go.Proofs.Ytoimpjmoikjibaa.Dk
