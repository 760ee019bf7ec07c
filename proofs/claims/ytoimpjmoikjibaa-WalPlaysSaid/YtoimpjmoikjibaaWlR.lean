/- wal.read, walked. (written by gen_rd.py) -/
import Derived.Test.YtoimpjmoikjibaaFr
import Derived.Test.YtoimpjmoikjibaaDkC
namespace Go.Proofs.Ytoimpjmoikjibaa.Wl
open Go Go.RowKit Go.Proofs.Ytoimpjmoikjibaa.Pure Go.Proofs.Ytoimpjmoikjibaa.P Go.Proofs.Ytoimpjmoikjibaa.Dk Go.Proofs.YtoimpjmoikjibaaW.PrintWords Go.Proofs.YtoimpjmoikjibaaW.PrintLast Go.Proofs.YtoimpjmoikjibaaW.PrintMore
set_option linter.unusedVariables false
set_option linter.unusedSimpArgs false
/-- A scope with one label: whoever stands at the label in a state that J tells goes on; the way ahead of the first pass may use it. -/
theorem wp_scope_jumps1 {P : Program} {a : Act} {w : World} {Q : Exit → Act → World → Prop} {c X : Code} (l : Nat) (J : Act → World → Prop) (μ : Act → World → Nat) (hf : findLabel c l = some (Code.skip.seq X))
    (pass : ∀ a w, J a w → X.wp P (Exit.jump l (fun a' w' => J a' w' ∧ μ a' w' < μ a w) Q) a w)
    (first : (∀ a w, J a w → X.wp P (Exit.jump l J Q) a w) → c.wp P (Exit.jump l J Q) a w) : (Code.scope c).wp P Q a w := by
  refine wp_scope_jumps l J μ hf (first fun a w hJ => Code.wp_mono ?_ (pass a w hJ)) fun a w hJ => wp_seq (wp_skip (pass a w hJ))
  intro e a' w' h
  cases e with
  | goto l' => exact ⟨h.1, h.2.1⟩
  | _ => exact h
/-- A goal that a walk leaves alone. -/
def Halt (p : Prop) : Prop := p
theorem Halt.out {p : Prop} (h : Halt p) : p := h
theorem infoBS : (Try.prog.info? 22).map (fun i => (i.zero, i.size, i.bytes)) = some (some (.slice none 0 0), 1, 24) := by kernel_rfl
def slotInt : Value → Int | .int _ q => q | _ => 0
/-- 'xs[j:]' of a row that is only read. -/
theorem cutV {w : World} {base : Nat} {ok : Nat → Prop} {A : Option Addr} {c : Nat} {l : List Int} (h : Kd.V (Kd.int .u8) 5 w base ok (.slice A l.length c) l) (j : Int) (h0 : 0 ≤ j) (hm : j ≤ l.length) :
    ∃ A' c', (∀ W : World, (Instr.slice 22 (.slice A l.length c) (some (.int .i64 j)) none none).run Try.prog W = .ok (.slice A' (l.drop j.toNat).length c') W) ∧ Kd.V (Kd.int .u8) 5 w base ok (.slice A' (l.drop j.toNat).length c') (l.drop j.toNat) := by
  obtain ⟨i0, hi0, _, hsz, _⟩ := info_parts infoB8
  obtain ⟨_, hroom, hF⟩ := Kd.V_at h
  have hcut := cut_from (P := Try.prog) 22 5 .i64 Try.underlying22 hi0 1 hsz A l.length c j h0 hm
  have hr := Kd.F_cut (m := j.toNat) (c := c) hF (by omega) hroom
  have hl : (l.drop j.toNat).length = l.length - j.toNat := List.length_drop
  exact ⟨_, c - j.toNat, fun W => by rw [hl]; exact hcut W, Kd.V_mk (by rw [hl]; omega) hr⟩
theorem open_T (P0 : Nat → Prop) (A : Option Addr) (c : Nat) (l : List Int) (w : World) (hs : Kd.V (Kd.int .u8) 5 w w.heap.size P0 (.slice A l.length c) l) (hB : B l) (hm : l.length ≤ 140737488355000) :
    Calls Try.prog 75 #[.slice A l.length c] w fun e w' => ∃ v, e = .returned (.tuple #[v, .int .i64 (opened l).2.1, .int .i64 (opened l).2.2]) ∧ Kd.R (Kd.int .u8) 5 w' w.heap.size (fun k => w.heap.size ≤ k) v (opened l).1 ∧ Below w.heap.size w w' := by
  obtain ⟨k, hk⟩ := Open_ev l hB hm
  exact sum_Open.calls k P0 A c l _ _ _ w hs (hk k (Nat.le_refl _))
/-- The first byte of a row of the call's own. -/
theorem R_head {w : World} {base : Nat} {ok : Nat → Prop} {A : Option Addr} {n c : Nat} {x : Int} {r : List Int} (h : Kd.R (Kd.int .u8) 5 w base ok (.slice A n c) (x :: r)) : ∃ g, A = some ⟨g, 0, none⟩ ∧ w.cell? ⟨g, 0, none⟩ = some (.int .u8 x) := by
  obtain ⟨hn, hc, hC⟩ := Kd.R_reads' h
  subst hn
  have hA : ∃ g, A = some ⟨g, 0, none⟩ := by
    obtain ⟨inner, hz, ho⟩ := Kd.R_own h
    rcases ho with ⟨hv, hn⟩ | ⟨g, cap, cur, hv, _⟩
    · simp at hn
    · injection hv with h1
      exact ⟨g, h1⟩
  obtain ⟨g, rfl⟩ := hA
  have := (Kd.R_cell (0 : Int) h 0 (by omega) (by simp)).1
  exact ⟨g, rfl, this⟩
set_option maxHeartbeats 8000000 in
set_option maxRecDepth 100000 in
theorem wread_T (P0 : Nat → Prop) (A : Option Addr) (c : Nat) (l : List Int) (w : World) (hs : Kd.V (Kd.int .u8) 5 w w.heap.size P0 (.slice A l.length c) l) (hB : B l) (hm : l.length ≤ 1000000000) :
    Calls Try.prog 67 #[.slice A l.length c] w fun e w' => Below w.heap.size w w' ∧ (wlog l = none → e = .returned (.tuple #[.slice none 0 0, .slice none 0 0, .int .i64 0, .bool false])) ∧
      ∀ x, wlog l = some x → ∃ v0 v1, e = .returned (.tuple #[v0, v1, .int .i64 (x.2.2 : Int), .bool true]) ∧ Kd.V (Kd.int .u8) 5 w' w.heap.size (fun k => w.heap.size ≤ k ∧ some k ≠ v1.ownBlock) v0 x.1 ∧ Kd.N (Kd.slice 5 (Kd.int .u8)) 22 w' w.heap.size (fun k => w.heap.size ≤ k) v1 x.2.1 := by
  have K := Aside0.mk (open_T P0 A c l w hs hB (by omega))
  have HV := Aside0.mk hs
  have HB8 := Aside0.mk hB
  have HM := Aside0.mk hm
  obtain ⟨p, hp⟩ : ∃ p, (opened l).1 = p := ⟨_, rfl⟩
  obtain ⟨z, hz⟩ : ∃ z, (opened l).2.2 = z := ⟨_, rfl⟩
  obtain ⟨nz, hnz⟩ : ∃ z, (opened l).2.1 = z := ⟨_, rfl⟩
  rw [hp, hz, hnz] at K
  have HP := Aside0.mk hp
  have HZ := Aside0.mk hz
  have HNZ := Aside0.mk hnz
  clear hs hB hm hp hz hnz
  by_cases hw : z = 0 ∧ p.head? = some 0
  · obtain ⟨rfl, hh⟩ := hw
    obtain ⟨r, rfl⟩ : ∃ r, p = 0 :: r := by
      cases p with
      | nil => cases hh
      | cons y r => rw [List.head?_cons] at hh; cases hh; exact ⟨r, rfl⟩
    obtain ⟨hn1, hn2⟩ := opened_n l HZ.out
    rw [HP.out] at hn1 hn2
    rw [HNZ.out] at hn1
    have hwl : wlog l = some (r, (recsW (l.drop (r.length + 1 + 8))).1, r.length + 1 + 8 + (recsW (l.drop (r.length + 1 + 8))).2) := by
      unfold wlog
      rw [if_pos ⟨HZ.out, by rw [HP.out]; rfl⟩, HP.out]
      rfl
    obtain ⟨x, hx⟩ : ∃ x, (r, (recsW (l.drop (r.length + 1 + 8))).1, r.length + 1 + 8 + (recsW (l.drop (r.length + 1 + 8))).2) = x := ⟨_, rfl⟩
    rw [hx] at hwl
    have HWL := Aside0.mk hwl
    obtain ⟨e0, he0⟩ : ∃ e0, r.length + 1 + 8 = e0 := ⟨_, rfl⟩
    rw [he0] at hx
    have hl0 : (0 :: r).length + 8 = e0 := by simp only [List.length_cons]; omega
    rw [hl0] at hn1 hn2
    have HX : Aside0 (x.1 = r ∧ (recsW (l.drop e0)).1 = x.2.1 ∧ e0 + (recsW (l.drop e0)).2 = x.2.2) := ⟨by rw [← hx]; exact ⟨rfl, rfl, rfl⟩⟩
    have HE0 := Aside0.mk hn2
    subst hn1
    clear hx hwl he0 hl0 hn2 HNZ HZ HP hh
    go_enter Try.func67, Try.ntmps67
    go_wp2_with (fail)
    refine wp_scope_jumps1 0 (fun a' w' => ∃ (e : Nat) (recs : List (List Int)) (v0 v1 u1 u5 u6 u7 u8 u9 u10 u11 u12 u13 u14 u15 u16 u17 u18 u19 u20 u21 u22 u23 u24 u25 u26 u27 u28 u29 u30 u31 u32 u33 u34 u35 u36 u37 u38 u39 u40 u41 u42 u43 u44 u45 u46 u47 u48 u49 u50 u51 u52 u53 u54 u55 u56 u57 u58 u59 u60 u61 u62 : Value), a' = { tmps := #[.slice A l.length c, u1, v0, v1, .int .i64 (e : Int), u5, u6, u7, u8, u9, u10, u11, u12, u13, u14, u15, u16, u17, u18, u19, u20, u21, u22, u23, u24, u25, u26, u27, u28, u29, u30, u31, u32, u33, u34, u35, u36, u37, u38, u39, u40, u41, u42, u43, u44, u45, u46, u47, u48, u49, u50, u51, u52, u53, u54, u55, u56, u57, u58, u59, u60, u61, u62], defers := [] } ∧ Aside0 (e ≤ l.length) ∧ Aside0 (8 * recs.length ≤ e) ∧ Aside0 (recs ++ (recsW (l.drop e)).1 = x.2.1 ∧ e + (recsW (l.drop e)).2 = x.2.2) ∧ Aside0 (Kd.V (Kd.int .u8) 5 w' w.heap.size (fun k => w.heap.size ≤ k ∧ some k ≠ v1.ownBlock) v0 x.1) ∧ Aside0 (Kd.N (Kd.slice 5 (Kd.int .u8)) 22 w' w.heap.size (fun k => w.heap.size ≤ k) v1 recs) ∧ Aside0 (Below w.heap.size w w')) (fun a' _ => ((l.length : Int) + 1 - slotInt (a'.tmps.getD 4 undef)).toNat) rfl ?_ ?_
    rotate_left
    · intro hpass
      go_wp2_with (fail)
      refine K.out.mono ?_
      rintro e w1 ⟨v, rfl, hr, hb⟩
      obtain ⟨A1, c1, rfl⟩ := Kd.R_slice hr
      obtain ⟨n1, hn1⟩ : ∃ n, (0 :: r).length = n := ⟨_, rfl⟩
      obtain ⟨g, rfl, hc⟩ := R_head hr
      obtain ⟨A2, c2, hcut, hV⟩ := cutV (Kd.R_V (base' := w.heap.size) hr) 1 (by omega) (by simp; omega)
      have HRV := Aside0.mk hV
      have HB1 := Aside0.mk hb
      have hnn : (0 : Int) < (n1 : Int) := by rw [← hn1]; simp
      have hn0 : ((n1 : Int) == 0) = false := beq_eq_false_iff_ne.2 (by omega)
      rw [hn1] at hcut ⊢
      obtain ⟨n2, hn2⟩ : ∃ n, ((0 :: r).drop (1 : Int).toNat).length = n := ⟨_, rfl⟩
      rw [hn2] at hcut HRV
      have hnz : 0 < n1 := by rw [← hn1]; simp
      clear hn1 hr hb K hV hnn
      go_wp2
      go_step3
      rename_i hK
      refine hK _ _ (hpass _ _ ?_)
      refine ⟨e0, [], _, _, _, _, _, _, _, _, _, _, _, _, _, _, _, _, _, _, _, _, _, _, _, _, _, _, _, _, _, _, _, _, _, _, _, _, _, _, _, _, _, _, _, _, _, _, _, _, _, _, _, _, _, _, _, _, _, _, _, _, _, rfl, HE0, ⟨by simp⟩, ⟨by rw [List.nil_append]; exact HX.out.2⟩, ⟨?_⟩, ⟨Kd.N_nil _ _ _ _ _⟩, HB1⟩
      rw [HX.out.1]
      exact Kd.V_mono HRV.out (fun k hk => ⟨hk, by simp [Value.ownBlock]⟩)
    · clear K
      rintro a' wr ⟨e, recs, v0, v1, u1, u5, u6, u7, u8, u9, u10, u11, u12, u13, u14, u15, u16, u17, u18, u19, u20, u21, u22, u23, u24, u25, u26, u27, u28, u29, u30, u31, u32, u33, u34, u35, u36, u37, u38, u39, u40, u41, u42, u43, u44, u45, u46, u47, u48, u49, u50, u51, u52, u53, u54, u55, u56, u57, u58, u59, u60, u61, u62, rfl, HE, HRL, HXX, HV0, HN1, HBW⟩
      obtain ⟨A2, c2, hcut, hV⟩ := cutV HV.out (e : Int) (by omega) (by have := HE.out; omega)
      rw [Int.toNat_natCast] at hcut hV
      have hld : (l.drop e).length = l.length - e := List.length_drop
      have KO := Aside0.mk (open_T (fun k => P0 k ∧ k < w.heap.size) A2 c2 (l.drop e) wr (Kd.V_below (Kd.V_bound hV) HBW.out |> fun h => h) (B_drop HB8.out e) (by have := HM.out; omega))
      have HLD := Aside0.mk hld
      obtain ⟨y, hy⟩ : ∃ y, l.drop e = y := ⟨_, rfl⟩
      rw [hy] at hcut KO HLD
      obtain ⟨p, hp⟩ : ∃ p, (opened y).1 = p := ⟨_, rfl⟩
      obtain ⟨z, hz⟩ : ∃ z, (opened y).2.2 = z := ⟨_, rfl⟩
      obtain ⟨nz, hnz⟩ : ∃ z, (opened y).2.1 = z := ⟨_, rfl⟩
      rw [hp, hz, hnz] at KO
      have HY := Aside0.mk hy
      have HP := Aside0.mk hp
      have HZ := Aside0.mk hz
      have HNZ := Aside0.mk hnz
      obtain ⟨ny, hny⟩ : ∃ n, y.length = n := ⟨_, rfl⟩
      rw [hny] at hcut KO HLD
      have hel := HE.out
      clear hld hV hy hp hz hnz hny
      by_cases hw : z = 0 ∧ p.head? = some 1
      · obtain ⟨rfl, hh⟩ := hw
        obtain ⟨q, rfl⟩ : ∃ q, p = 1 :: q := by
          cases p with
          | nil => cases hh
          | cons y r => rw [List.head?_cons] at hh; cases hh; exact ⟨r, rfl⟩
        obtain ⟨hn1, hn2⟩ := opened_n y HZ.out
        rw [HP.out] at hn1 hn2
        rw [HNZ.out] at hn1
        have hrw := recsW_pos (b := y) ⟨HZ.out, by rw [HP.out]; rfl⟩
        rw [HP.out] at hrw
        obtain ⟨d, hd⟩ : ∃ d, (1 :: q).length + 8 = d := ⟨_, rfl⟩
        rw [hd] at hn1 hn2 hrw
        have hxx := HXX.out
        rw [HY.out, hrw, ← HY.out, List.drop_drop] at hxx
        have HX2 := Aside0.mk hxx
        have HD : Aside0 (8 ≤ d) := ⟨by rw [← hd]; omega⟩
        have HND : Aside0 (e + d ≤ l.length) := ⟨by have := HLD.out; rw [← HY.out, List.length_drop] at hn2; omega⟩
        have HW2 : Aside0 (wrap64 ((e : Int) + (d : Int)) = ((e + d : Nat) : Int)) := ⟨by have := HND.out; have := HM.out; unfold wrap64; omega⟩
        subst hn1
        clear hrw hxx hn2 hd hh HP HZ HNZ
        have hdl : d ≤ 1000000000 := by have := HND.out; have := HM.out; omega
        have hel2 : e ≤ 1000000000 := by have := HND.out; have := HM.out; omega
        have hRL : Aside0 ((recs.length + 1) * 24 ≤ 140737488355328) := ⟨by have := HRL.out; have := HND.out; have := HM.out; omega⟩
        go_wp2_with (fail)
        refine KO.out.mono ?_
        rintro e1 w1 ⟨v, rfl, hr, hb⟩
        obtain ⟨A1, c1, rfl⟩ := Kd.R_slice hr
        obtain ⟨n1, hn1⟩ : ∃ n, (1 :: q).length = n := ⟨_, rfl⟩
        obtain ⟨g, rfl, hc⟩ := R_head hr
        obtain ⟨A3, c3, hcut3, hV3⟩ := cutV (Kd.R_V (base' := wr.heap.size) hr) 1 (by omega) (by simp; omega)
        have hwle := below_size HBW.out
        have HB1 := Aside0.mk (below_step HBW.out hb)
        have HV1 := Aside0.mk (Kd.V_below (Kd.V_bound HV0.out) hb)
        have HN2 := Aside0.mk (Kd.N_below (Kd.N_bound HN1.out) hb)
        rw [hn1] at hcut3 ⊢
        obtain ⟨n2, hn2⟩ : ∃ n, ((1 :: q).drop (1 : Int).toNat).length = n := ⟨_, rfl⟩
        rw [hn2] at hcut3 hV3
        have HV3 := Aside0.mk hV3
        have HN22 := Aside0.mk hn2
        have hnz : 0 < n1 := by rw [← hn1]; simp
        have hn0 : ((n1 : Int) == 0) = false := beq_eq_false_iff_ne.2 (by omega)
        have HWL2 := Aside0.mk hwle
        clear hn1 hr hb KO hV3 hn2 hwle
        have HNB := Aside0.mk (Kd.N_mono (ok' := fun k => w.heap.size ≤ k) HN2.out (fun k hk => hk.1))
        have HOP : Aside0 (Kd.FK (Kd.slice 5 (Kd.int .u8)) w1 (fun k => w.heap.size ≤ k ∧ some k ≠ v1.ownBlock) q [.slice A3 n2 c3]) := ⟨by
          have h1 := Kd.V_mono (ok' := fun k => w.heap.size ≤ k ∧ some k ≠ v1.ownBlock) HV3.out (fun k hk => ⟨Nat.le_trans HWL2.out hk, fun e => by have := Kd.N_lt HN1.out k e.symm; omega⟩)
          have h2 := (Kd.V_reads' h1).2.1
          have h3 := Kd.V_F h1
          have h4 : n2 = q.length := HN22.out.symm
          subst h4
          exact Kd.FK_slice_mk h2 h3⟩
        have HFR : Aside0 (∀ k, w1.heap.size ≤ k → w.heap.size ≤ k) := ⟨fun k hk => Nat.le_trans (below_size HB1.out) hk⟩
        go_wp2_with (first | ((with_reducible refine gate_builtin (b := .append) (xs := #[.tmp 52, .tmp 55]) rfl ?_); at_builtin; refine Kd.N_append (Kd.slice 5 (Kd.int .u8)) (w0 := w) w.heap.size rfl (.tmp 52) (.tmp 55) 57 22 (.slice none 0 0) 24 rfl Try.underlying57 infoBS rfl (by decide) (by decide) v1 recs q [.slice A3 n2 c3] (fun k => w.heap.size ≤ k) (fun k => w.heap.size ≤ k ∧ some k ≠ v1.ownBlock) rfl rfl HOP.out (fun _ hk => hk) HFR.out HNB.out HB1.out (below_size HB1.out) hRL.out ?_; intro v2 w2 hN hB hg hat; refine Halt.out ?_))
        unfold Halt
        have HN3 := Aside0.mk hN
        have HB3 := Aside0.mk hB
        have HV5 := Aside0.mk (Kd.V_after (ok := fun k => w.heap.size ≤ k) (Kd.V_mono HV1.out (fun k hk => ⟨hk.1.1, hk.1.2⟩)) hg hat)
        clear hN hB hg hat
        go_wp2
        go_step3
        (try rw [HW2.out])
        (try rw [show (e : Int) + (d : Int) = ((e + d : Nat) : Int) by omega])
        refine ⟨rfl, ⟨e + d, recs ++ [q], _, _, _, _, _, _, _, _, _, _, _, _, _, _, _, _, _, _, _, _, _, _, _, _, _, _, _, _, _, _, _, _, _, _, _, _, _, _, _, _, _, _, _, _, _, _, _, _, _, _, _, _, _, _, _, _, _, _, _, _, _, rfl, HND, ⟨by have := HRL.out; have := HD.out; rw [List.length_append, List.length_singleton]; omega⟩, ⟨?_⟩, HV5, HN3, HB3⟩, ?_⟩
        · have := HX2.out
          (try dsimp only at this)
          refine ⟨by rw [List.append_assoc]; exact this.1, by rw [Nat.add_assoc]; exact this.2⟩
        · have := HND.out
          have := HD.out
          show ((l.length : Int) + 1 - ((e + d : Nat) : Int)).toNat < ((l.length : Int) + 1 - (e : Int)).toNat
          omega
      · have hrw := recsW_neg (b := y) (fun h => hw ⟨HZ.out.symm.trans h.1, HP.out ▸ h.2⟩)
        have hxx := HXX.out
        rw [HY.out, hrw] at hxx
        have HX2 := Aside0.mk hxx
        clear hrw hxx
        have hwle := below_size HBW.out
        have HWL2 := Aside0.mk hwle
        clear hwle
        by_cases hz0 : z = 0
        · subst hz0
          cases p with
          | nil =>
            go_wp2_with (fail)
            refine KO.out.mono ?_
            rintro e1 w1 ⟨v, rfl, hr, hb⟩
            obtain ⟨A1, c1, rfl⟩ := Kd.R_slice hr
            have HB1 := Aside0.mk (below_step HBW.out hb)
            have HV1 := Aside0.mk (Kd.V_below (Kd.V_bound HV0.out) hb)
            have HN2 := Aside0.mk (Kd.N_below (Kd.N_bound HN1.out) hb)
            clear hr hb KO
            go_wp2
            (try simp only [Exit.jump])
            refine bodyPost_ret (v := .tuple #[v0, v1, .int .i64 (e : Int), .bool true]) (by simp [results, Try.results67, go_sem]) rfl ?_
            refine ⟨HB1.out, fun hwn => (by rw [HWL.out] at hwn; cases hwn), fun x' hx' => ?_⟩
            obtain rfl : x = x' := Option.some.inj (HWL.out.symm.trans hx')
            have h1 := HX2.out
            rw [List.append_nil, Nat.add_zero] at h1
            obtain ⟨h1, h2⟩ := h1
            refine ⟨v0, v1, by rw [h2], Kd.V_mono HV1.out (fun k hk => hk.1), ?_⟩
            rw [← h1]
            exact Kd.N_mono HN2.out (fun k hk => hk.1)
          | cons x1 q =>
            have hx1 : x1 ≠ 1 := fun h => hw ⟨rfl, by rw [h]; rfl⟩
            have hb1 : (x1 == 1) = false := beq_eq_false_iff_ne.2 hx1
            go_wp2_with (fail)
            refine KO.out.mono ?_
            rintro e1 w1 ⟨v, rfl, hr, hb⟩
            obtain ⟨A1, c1, rfl⟩ := Kd.R_slice hr
            obtain ⟨n1, hn1⟩ : ∃ n, (x1 :: q).length = n := ⟨_, rfl⟩
            obtain ⟨g, rfl, hc⟩ := R_head hr
            rw [hn1]
            have hnz : 0 < n1 := by rw [← hn1]; simp
            have hn0 : ((n1 : Int) == 0) = false := beq_eq_false_iff_ne.2 (by omega)
            have HB1 := Aside0.mk (below_step HBW.out hb)
            have HV1 := Aside0.mk (Kd.V_below (Kd.V_bound HV0.out) hb)
            have HN2 := Aside0.mk (Kd.N_below (Kd.N_bound HN1.out) hb)
            clear hr hb KO hn1
            go_wp2
            (try simp only [Exit.jump])
            refine bodyPost_ret (v := .tuple #[v0, v1, .int .i64 (e : Int), .bool true]) (by simp [results, Try.results67, go_sem]) rfl ?_
            refine ⟨HB1.out, fun hwn => (by rw [HWL.out] at hwn; cases hwn), fun x' hx' => ?_⟩
            obtain rfl : x = x' := Option.some.inj (HWL.out.symm.trans hx')
            have h1 := HX2.out
            rw [List.append_nil, Nat.add_zero] at h1
            obtain ⟨h1, h2⟩ := h1
            refine ⟨v0, v1, by rw [h2], Kd.V_mono HV1.out (fun k hk => hk.1), ?_⟩
            rw [← h1]
            exact Kd.N_mono HN2.out (fun k hk => hk.1)
        · have hz1 : (z == 0) = false := beq_eq_false_iff_ne.2 hz0
          go_wp2_with (fail)
          refine KO.out.mono ?_
          rintro e1 w1 ⟨v, rfl, hr, hb⟩
          obtain ⟨A1, c1, rfl⟩ := Kd.R_slice hr
          have HB1 := Aside0.mk (below_step HBW.out hb)
          have HV1 := Aside0.mk (Kd.V_below (Kd.V_bound HV0.out) hb)
          have HN2 := Aside0.mk (Kd.N_below (Kd.N_bound HN1.out) hb)
          clear hr hb KO
          go_wp2
          (try simp only [Exit.jump])
          refine bodyPost_ret (v := .tuple #[v0, v1, .int .i64 (e : Int), .bool true]) (by simp [results, Try.results67, go_sem]) rfl ?_
          refine ⟨HB1.out, fun hwn => (by rw [HWL.out] at hwn; cases hwn), fun x' hx' => ?_⟩
          obtain rfl : x = x' := Option.some.inj (HWL.out.symm.trans hx')
          have h1 := HX2.out
          rw [List.append_nil, Nat.add_zero] at h1
          obtain ⟨h1, h2⟩ := h1
          refine ⟨v0, v1, by rw [h2], Kd.V_mono HV1.out (fun k hk => hk.1), ?_⟩
          rw [← h1]
          exact Kd.N_mono HN2.out (fun k hk => hk.1)
  · have hwl : wlog l = none := by
      unfold wlog
      rw [if_neg (fun h => hw ⟨HZ.out.symm.trans h.1, HP.out ▸ h.2⟩)]
    have HWL := Aside0.mk hwl
    clear hwl
    by_cases hz0 : z = 0
    · subst hz0
      cases p with
      | nil =>
        go_enter Try.func67, Try.ntmps67
        go_wp2_with (fail)
        refine wp_scope_jumps1 0 (fun _ _ => False) (fun _ _ => 0) rfl (fun _ _ h => h.elim) ?_
        intro hpass
        go_wp2_with (fail)
        refine K.out.mono ?_
        rintro e w1 ⟨v, rfl, hr, hb⟩
        obtain ⟨A1, c1, rfl⟩ := Kd.R_slice hr
        have HB1 := Aside0.mk hb
        clear hr hb K
        go_wp2
        (try simp only [Exit.jump])
        refine bodyPost_ret (v := .tuple #[.slice none 0 0, .slice none 0 0, .int .i64 0, .bool false]) (by simp [results, Try.results67, go_sem]) rfl ?_
        exact ⟨HB1.out, fun _ => rfl, fun x hx => (by rw [HWL.out] at hx; cases hx)⟩
      | cons x1 q =>
        have hx1 : x1 ≠ 0 := fun h => hw ⟨rfl, by rw [h]; rfl⟩
        have hb1 : (x1 != 0) = true := bne_iff_ne.2 hx1
        go_enter Try.func67, Try.ntmps67
        go_wp2_with (fail)
        refine wp_scope_jumps1 0 (fun _ _ => False) (fun _ _ => 0) rfl (fun _ _ h => h.elim) ?_
        intro hpass
        go_wp2_with (fail)
        refine K.out.mono ?_
        rintro e w1 ⟨v, rfl, hr, hb⟩
        obtain ⟨A1, c1, rfl⟩ := Kd.R_slice hr
        obtain ⟨n1, hn1⟩ : ∃ n, (x1 :: q).length = n := ⟨_, rfl⟩
        obtain ⟨g, rfl, hc⟩ := R_head hr
        rw [hn1]
        have hnz : 0 < n1 := by rw [← hn1]; simp
        have hn0 : ((n1 : Int) == 0) = false := beq_eq_false_iff_ne.2 (by omega)
        have HB1 := Aside0.mk hb
        clear hr hb K hn1
        go_wp2
        (try simp only [Exit.jump])
        refine bodyPost_ret (v := .tuple #[.slice none 0 0, .slice none 0 0, .int .i64 0, .bool false]) (by simp [results, Try.results67, go_sem]) rfl ?_
        exact ⟨HB1.out, fun _ => rfl, fun x hx => (by rw [HWL.out] at hx; cases hx)⟩
    · have hz1 : (z != 0) = true := bne_iff_ne.2 hz0
      go_enter Try.func67, Try.ntmps67
      go_wp2_with (fail)
      refine wp_scope_jumps1 0 (fun _ _ => False) (fun _ _ => 0) rfl (fun _ _ h => h.elim) ?_
      intro hpass
      go_wp2_with (fail)
      refine K.out.mono ?_
      rintro e w1 ⟨v, rfl, hr, hb⟩
      obtain ⟨A1, c1, rfl⟩ := Kd.R_slice hr
      have HB1 := Aside0.mk hb
      clear hr hb K
      go_wp2
      (try simp only [Exit.jump])
      refine bodyPost_ret (v := .tuple #[.slice none 0 0, .slice none 0 0, .int .i64 0, .bool false]) (by simp [results, Try.results67, go_sem]) rfl ?_
      exact ⟨HB1.out, fun _ => rfl, fun x hx => (by rw [HWL.out] at hx; cases hx)⟩
end Go.Proofs.Ytoimpjmoikjibaa.Wl
