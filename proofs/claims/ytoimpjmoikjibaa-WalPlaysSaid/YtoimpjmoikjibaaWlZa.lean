/- A play of a log, in a law: what stands between two steps. -/
import Derived.Test.YtoimpjmoikjibaaWlV
namespace Go.Proofs.Ytoimpjmoikjibaa.Wl
open Go Go.RowKit Go.Proofs.Ytoimpjmoikjibaa.IMap Go.Proofs.Ytoimpjmoikjibaa.Pure Go.Proofs.Ytoimpjmoikjibaa.P Go.Proofs.Ytoimpjmoikjibaa.Dk Go.Proofs.YtoimpjmoikjibaaW.PrintWords Go.Proofs.YtoimpjmoikjibaaW.PrintLast Go.Proofs.YtoimpjmoikjibaaW.PrintMore
set_option linter.unusedVariables false
set_option linter.unusedSimpArgs false
abbrev kPl : Kd (Int × List Int × List Int) := Kd.pair (Kd.int .i64) (Kd.pair (Kd.slice 5 (Kd.int .u8)) (Kd.slice 3 (Kd.int .i64)))
theorem elem_Pl {w : World} {A : Option Addr} {l : List (Int × List Int × List Int)} (h : Kd.C kPl w A l.length l) (i : Nat) (k : Int) (da ke : List Int) (hx : l[i]? = some (k, da, ke)) :
    ∃ ad Ad cd Ak ck, A = some ad ∧ (∀ w1, Below w.heap.size w w1 → w1.cell? (ad.add (i * 3)) = some (.int .i64 k) ∧ w1.cell? ⟨(ad.add (i * 3)).block, (ad.add (i * 3)).off + 1, none⟩ = some (.slice Ad da.length cd) ∧ w1.cell? ⟨(ad.add (i * 3)).block, (ad.add (i * 3)).off + 2, none⟩ = some (.slice Ak ke.length ck)) ∧ Kd.C (Kd.int .u8) w Ad da.length da ∧ da.length ≤ cd ∧ Kd.C (Kd.int .i64) w Ak ke.length ke ∧ ke.length ≤ ck := by
  obtain ⟨ad, e, hc⟩ := h.2.2 (by cases l with | nil => simp at hx | cons y r => simp)
  obtain ⟨cs, h1, h2, h3⟩ := hc i _ hx
  obtain ⟨y0, z0, rfl, k0, ⟨y1, z1, rfl, ⟨Ad, cd, rfl, hcd, hd⟩, ⟨Ak, ck, rfl, hck, hk⟩⟩⟩ := h2
  have k0' : y0 = [Value.int .i64 k] := k0
  subst k0'
  have q : ∀ (j : Nat) (v : Value), w.cell? (ad.add (i * 3 + (j + 1))) = some v → w.cell? ⟨(ad.add (i * 3)).block, (ad.add (i * 3)).off + (j + 1), none⟩ = some v := fun j v hv => by
    rw [show ad.add (i * 3 + (j + 1)) = (ad.add (i * 3)).add (j + 1) from (Addr.add_add _ _ _).symm] at hv
    exact hv
  have f0 : w.cell? (ad.add (i * 3)) = some (.int .i64 k) := h3 0 _ rfl
  have f1 := q 0 _ (h3 1 _ rfl)
  have f2 := q 1 _ (h3 2 _ rfl)
  exact ⟨ad, Ad, cd, Ak, ck, e, fun w1 hb => ⟨pw_cell_below hb f0, pw_cell_below hb f1, pw_cell_below hb f2⟩, hd, hcd, hk, hck⟩
/-- A moment of a play: the log, the base and the records that the law keeps. -/
structure PS (w w' : World) (g l : Nat) (c : Int) (v8 v9 : Value) (k : Nat) (b : List Int) (rs : List (List Int)) : Prop where
  lx : ∃ X sf, LX w w' g l (Dk.one (k : Int) (img b rs) sf c) (ws (k : Int) (img b rs).length b rs) X ∧ Kd.N kBs 22 w' w.heap.size (fun q => q < w.heap.size ∨ X q) v9 rs
  v8 : ∃ La lc, v8 = .slice La b.length lc ∧ Kd.C kB w La b.length b ∧ b.length ≤ lc
  bb : B b
  bl : b.length ≤ 300
  br : ∀ r ∈ rs, B r ∧ r.length ≤ 300
theorem PS.ll {w w' : World} {g l : Nat} {c : Int} {v8 v9 : Value} {k : Nat} {b : List Int} {rs : List (List Int)} (h : PS w w' g l c v8 v9 k b rs) : ∃ sf, LL w w' g l (Dk.one (k : Int) (img b rs) sf c) (ws (k : Int) (img b rs).length b rs) := by
  obtain ⟨X, sf, h1, _⟩ := h.lx
  exact ⟨sf, h1.ll⟩
theorem PS.from {w w' : World} {g l : Nat} {c : Int} {v8 v9 : Value} {k : Nat} {b : List Int} {rs : List (List Int)} (h : PS w w' g l c v8 v9 k b rs) : Below w.heap.size w w' := by
  obtain ⟨X, sf, h1, _⟩ := h.lx
  exact h1.from
theorem PS.below {w w' w1 : World} {g l : Nat} {c : Int} {v8 v9 : Value} {k : Nat} {b : List Int} {rs : List (List Int)} (h : PS w w' g l c v8 v9 k b rs) (hb : Below w'.heap.size w' w1) : PS w w1 g l c v8 v9 k b rs := by
  obtain ⟨X, sf, h1, h2⟩ := h.lx
  exact ⟨⟨X, sf, (h1.below hb).mono (fun q hq => .inl hq), Kd.N_below h2 hb⟩, h.v8, h.bb, h.bl, h.br⟩
theorem PS.start {w w' : World} {g l : Nat} {c : Int} (h : LL w w' g l (Dk.one 0 (frame [0]) 9 c) (ws 0 9 [] [])) : PS w w' g l c (.slice none 0 0) (.slice none 0 0) 0 [] [] :=
  ⟨⟨fun _ => False, 9, by
    have e : img [] [] = frame [0] := img_nil []
    rw [e, f0_len]
    exact LX.of h, Kd.N_nil _ _ _ _ _⟩, ⟨none, 0, rfl, Kd.C_nil _ _, Nat.le_refl _⟩, Pure.B_nil, Nat.zero_le _, fun r hr => by cases hr⟩
theorem recB_le (rs : List (List Int)) : 9 * rs.length ≤ (recB rs).length := by
  induction rs with
  | nil => exact Nat.le_refl _
  | cons r rs ih =>
    rw [recB_cons, List.length_append, frame_len, List.length_cons, List.length_cons]
    omega
theorem N_turn {w wx w5 : World} {X : Nat → Prop} {v : Value} {rs : List (List Int)} (h : Kd.N kBs 22 wx w.heap.size (fun q => q < w.heap.size ∨ X q) v rs) (h0 : Below w.heap.size w wx) (h5 : Below w.heap.size w w5) (hk : ∀ q, X q → w5.heap[q]? = wx.heap[q]?) : Kd.N kBs 22 w5 w.heap.size (fun q => q < w.heap.size ∨ X q) v rs :=
  Kd.N_step h (fun q hq _ => by
    rcases hq with hq | hq
    · rw [h5.block q hq, h0.block q hq]
    · exact hk q hq)
theorem F_lit {w w5 w6 : World} {v6 : Value} {lb : Nat} {Ad : Option Addr} {nd cd : Nat} {da : List Int} (hV : Kd.V kB 5 w5 0 (fun q => q < w.heap.size) (.slice Ad nd cd) da) (hw : w.heap.size ≤ w5.heap.size) (hb : Below w5.heap.size w5 w6) (hl : w6.heap[lb]? = some (.cells #[.slice Ad nd cd] 22 (0, 0))) (h6 : ∀ q, v6.ownBlock = some q → w5.heap.size ≤ q ∧ q ≠ lb) :
    Kd.F kBs w6 (fun q => (q < w.heap.size ∨ q = lb) ∧ some q ≠ v6.ownBlock) (some ⟨lb, 0, none⟩) 1 [da] := fun W' hW => by
  have hl' : W'.heap[lb]? = some (.cells #[.slice Ad nd cd] 22 (0, 0)) := (hW lb ⟨.inr rfl, fun e => (h6 lb e.symm).2 rfl⟩ (blk_lt hl)).trans hl
  have hV' := Kd.V_step hV (w1 := W') (fun k hk hlt => by rw [hW k ⟨.inl hk, fun e => by have := (h6 k e.symm).1; omega⟩ (by have := hb.size; omega), hb.block k hlt])
  obtain ⟨hn, hc, hC⟩ := Kd.V_reads' hV'
  subst hn
  refine ⟨rfl, by decide, fun _ => ⟨_, rfl, fun j p hp => ?_⟩⟩
  cases j with
  | zero =>
    obtain rfl : da = p := Option.some.inj hp
    refine ⟨[.slice Ad da.length cd], rfl, ⟨Ad, cd, rfl, hc, hC⟩, fun i u hu => ?_⟩
    cases i with
    | zero =>
      obtain rfl := Option.some.inj hu
      exact (blk_cell hl') 0
    | succ i => simp at hu
  | succ j => simp at hp
theorem N_empty (W : World) {base : Nat} {ok : Nat → Prop} (h : ok W.heap.size) (hb : base ≤ W.heap.size) : Kd.N kBs 22 (W.alloc (.cells #[] 22)) base ok (.slice (some ⟨W.heap.size, 0, none⟩) 0 0) [] := by
  have h2 := World.ownsRow_lit (base := base) (e := 22) (size := 1) W #[] 0 hb (by decide) (by simp)
  exact ⟨fun k hk => by simp [Value.ownBlock] at hk; rw [← hk]; exact h, [], rfl, ⟨fun k hk => hk.symm, [], h2, Reps.none _ _⟩, fun j x c hx => by simp at hx⟩
theorem FK_da {w w5 W : World} {A : Option Addr} {n c : Nat} {b : List Int} (h : Kd.V kB 5 w5 0 (fun q => q < w.heap.size) (.slice A n c) b) (hb : Below w5.heap.size w5 W) : Kd.FK kBs W (fun q => q < w.heap.size) b [.slice A n c] := by
  have h1 := Kd.V_below h hb
  obtain ⟨hn, hc, _⟩ := Kd.V_reads' h1
  subst hn
  exact Kd.FK_slice_mk hc (Kd.V_F h1)
theorem F9_at {w w5 W : World} {X : Nat → Prop} {A : Option Addr} {n c base : Nat} {rs : List (List Int)} (h : Kd.N kBs 22 w5 base (fun q => q < w.heap.size ∨ X q) (.slice A n c) rs) (hb : Below w5.heap.size w5 W) : Kd.F kBs W (fun q => (q < w.heap.size ∨ X q) ∧ q < w5.heap.size) A n rs := Kd.N_F (Kd.N_below (Kd.N_bound h) hb)
theorem play_app {w w5 w7 : World} {g l : Nat} {c : Int} {v8 v7 : Value} {k : Nat} {b da : List Int} {rs : List (List Int)} {X : Nat → Prop} {sf : Nat} (hx : LX w w5 g l (Dk.one (k : Int) (img b (rs ++ [da])) sf c) (ws (k : Int) (img b (rs ++ [da])).length b (rs ++ [da])) X) (hb : Below w5.heap.size w5 w7) (hN : Kd.N kBs 22 w7 w5.heap.size (fun q => q < w.heap.size ∨ X q ∨ w5.heap.size ≤ q) v7 (rs ++ [da]))
    (h8 : ∃ La lc, v8 = .slice La b.length lc ∧ Kd.C kB w La b.length b ∧ b.length ≤ lc) (hbb : B b) (hbl : b.length ≤ 300) (hbr : ∀ r ∈ rs, B r ∧ r.length ≤ 300) (hd : B da) (hdl : da.length ≤ 300) : PS w w7 g l c v8 v7 k b (rs ++ [da]) :=
  ⟨⟨_, sf, hx.below hb, Kd.N_lower (Kd.N_mono (Kd.N_bound hN) (fun q hq => by
    rcases hq.1 with h | h | h
    · exact .inl h
    · exact .inr (.inl h)
    · exact .inr (.inr ⟨h, hq.2⟩))) hx.from.size⟩, h8, hbb, hbl, fun r hr => by
    rcases List.mem_append.1 hr with hr | hr
    · exact hbr r hr
    · rw [List.mem_singleton.1 hr]; exact ⟨hd, hdl⟩⟩
theorem img_take_le (b : List Int) (rs : List (List Int)) (j : Nat) : (img b (rs.take j)).length ≤ (img b rs).length := by
  have h : img b rs = img b (rs.take j) ++ recB (rs.drop j) := by
    unfold img recB
    rw [List.append_assoc, ← List.flatten_append, ← List.map_append, List.take_append_drop]
  rw [h, List.length_append]
  omega
theorem new_block (w : World) (o : Obj) : (w.alloc o).heap[w.heap.size]? = some o := by show (w.heap.push o)[w.heap.size]? = _; simp
end Go.Proofs.Ytoimpjmoikjibaa.Wl
namespace Go.Proofs.Ytoimpjmoikjibaa.Wl
open Go Go.RowKit Go.Proofs.Ytoimpjmoikjibaa.IMap Go.Proofs.Ytoimpjmoikjibaa.Pure Go.Proofs.Ytoimpjmoikjibaa.P Go.Proofs.Ytoimpjmoikjibaa.Dk Go.Proofs.YtoimpjmoikjibaaW.PrintWords Go.Proofs.YtoimpjmoikjibaaW.PrintLast Go.Proofs.YtoimpjmoikjibaaW.PrintMore
set_option linter.unusedVariables false
set_option linter.unusedSimpArgs false
set_option maxHeartbeats 8000000 in
set_option maxRecDepth 100000 in
theorem WalPlays_main (c : Int) (l1 : List (Int × List Int × List Int)) (A1 : Option Addr) (c1 : Nat) (w : World) (h1 : Kd.C kPl w A1 l1.length l1) (hc1 : l1.length ≤ c1)
    (hB1 : ∀ o ∈ l1, B o.2.1) (q0 : 9 ≤ c ∧ c ≤ 5000) (q1 : l1.length ≤ 40) :
    Calls Try.prog 11 #[.int .i64 c, .slice A1 l1.length c1] w fun e w' => e = .returned (.bool true) ∧ Below w.heap.size w w' := by
  have HC1 := Aside0.mk h1
  have HBB := Aside0.mk hB1
  obtain ⟨n1, hn1⟩ : ∃ n, l1.length = n := ⟨_, rfl⟩
  rw [hn1] at q1 ⊢
  have HN1 := Aside0.mk hn1
  obtain ⟨q0, q2⟩ := q0
  have d0 : decide (c < 9) = false := decide_eq_false (by omega)
  have d1 : decide (5000 < c) = false := decide_eq_false (by omega)
  have d2 : decide (40 < (n1 : Int)) = false := decide_eq_false (by omega)
  clear h1 hc1 hB1 hn1
  go_enter Try.func11, Try.ntmps11
  go_wp2_with (fail)
  refine (anchor_T w).mono ?_
  rintro e w1 ⟨rfl, hb1⟩
  have HB1 := Aside0.mk hb1
  clear hb1
  go_wp2_with (fail)
  refine (New_L (w0 := w) c w1 (by omega) (by omega) HB1.out).mono ?_
  rintro e w2 ⟨g, rfl, h2⟩
  have KO := Aside0.mk (Open_L h2 (BD_new _) (open_new c (by omega)) rfl)
  clear h2 HB1
  go_wp2_with (fail)
  refine KO.out.mono ?_
  rintro e w3 ⟨l, rfl, h3⟩
  have H3 : Aside0 (PS w w3 g l c (.slice none 0 0) (.slice none 0 0) 0 [] []) := ⟨PS.start h3⟩
  clear h3 KO d0 d1 d2
  go_wp2
  go_loopg [8, 9, 10, 11, 53] n1 (fun kq v8 v9 v10 v11 v53 w' => ∃ (i k sz : Nat) (b : List Int) (rs : List (List Int)), v53 = .int .i64 (i : Int) ∧ v10 = .int .i64 (k : Int) ∧ v11 = .int .i64 (sz : Int) ∧ i + kq = n1 ∧ k ≤ i ∧ (sz : Int) ≤ c ∧ Aside0 (PS w w' g l c v8 v9 k b rs) ∧ Aside0 ((img b rs).length = sz))
  case atStart => exact ⟨0, 0, 9, [], [], rfl, rfl, rfl, by omega, by omega, q0, H3, ⟨by rw [img_nil]; exact f0_len⟩⟩
  case round =>
    clear H3
    obtain ⟨i, k, sz, b, rs, rfl, rfl, rfl, hk, hki, hszc, HP, HSZ⟩ := hrel
    by_cases hi : i < n1
    · have e1 : decide (i < n1) = true := decide_eq_true hi
      have hil : i < l1.length := by rw [HN1.out]; exact hi
      obtain ⟨x, hx⟩ : ∃ x, l1[i]? = some x := ⟨_, List.getElem?_eq_getElem hil⟩
      obtain ⟨kd, da, ke⟩ := x
      have HBD := Aside0.mk (show B da from HBB.out _ (List.mem_of_getElem? hx))
      obtain ⟨ad, Ad, cd, Ak, ck, hA, hcells, hda, hdc, hke, hkc⟩ := elem_Pl HC1.out i kd da ke hx
      obtain ⟨hx0, hx1, hx2⟩ := hcells wr HP.out.from
      cases hA
      have HDA := Aside0.mk hda
      have HDC := Aside0.mk hdc
      have HWI : Aside0 (wrap64 ((i : Int) + 1) = ((i + 1 : Nat) : Int)) := ⟨by unfold wrap64; omega⟩
      obtain ⟨nk, hnk⟩ : ∃ n, ke.length = n := ⟨_, rfl⟩
      rw [hnk] at hx2
      obtain ⟨nd, hnd⟩ : ∃ n, da.length = n := ⟨_, rfl⟩
      rw [hnd] at hx1
      have HND := Aside0.mk hnd
      have HBX := below_alloc (Below.refl wr.heap.size wr) (Obj.cells #[.int .i64 kd, .slice Ad nd cd, .slice Ak nk ck] 75)
      have HP2 := Aside0.mk (HP.out.below HBX)
      clear hil hx hcells hda hdc hke hkc hnk hnd HBX
      by_cases hbg : 300 < nd
      · have d3 : decide (300 < (nd : Int)) = true := decide_eq_true (by omega)
        clear hbg
        go_wp2
        go_ret
        exact ⟨rfl, HP2.out.from⟩
      · have d3 : decide (300 < (nd : Int)) = false := decide_eq_false (by omega)
        have hnd3 : nd ≤ 300 := by omega
        clear hbg
        go_upto_block 2 with fail
        obtain ⟨fit, hfit⟩ : ∃ x, decide ((sz : Int) + ((nd : Int) + 9) ≤ c) = x := ⟨_, rfl⟩
        rw [hfit]
        obtain ⟨X, sf, hlx, hN⟩ := HP.out.lx
        have hbx := below_alloc (Below.refl wr.heap.size wr) (Obj.cells #[.int .i64 kd, .slice Ad nd cd, .slice Ak nk ck] 75)
        have hbox := new_block wr (.cells #[.int .i64 kd, .slice Ad nd cd, .slice Ak nk ck] 75)
        have hszx : (wr.alloc (.cells #[.int .i64 kd, .slice Ad nd cd, .slice Ak nk ck] 75)).heap.size = wr.heap.size + 1 := World.size_alloc _ _
        obtain ⟨wx, hwx⟩ : ∃ W, wr.alloc (.cells #[.int .i64 kd, .slice Ad nd cd, .slice Ak nk ck] 75) = W := ⟨_, rfl⟩
        rw [hwx] at hbx hbox hszx HP2 ⊢
        obtain ⟨bx, hbxe⟩ : ∃ x, wr.heap.size = x := ⟨_, rfl⟩
        have HLX : Aside0 (LX w wx g l (Dk.one (k : Int) (img b rs) sf c) (ws (k : Int) (img b rs).length b rs) (fun q => X q ∨ (wr.heap.size ≤ q ∧ q < wx.heap.size))) := ⟨hlx.below hbx⟩
        have HNX : Aside0 (Kd.N kBs 22 wx w.heap.size (fun q => q < w.heap.size ∨ (X q ∨ (wr.heap.size ≤ q ∧ q < wx.heap.size))) u9 rs) := ⟨Kd.N_mono (Kd.N_below hN hbx) (fun q hq => hq.elim .inl (fun h => .inr (.inl h)))⟩
        rw [hbxe] at hbox hszx HLX HNX ⊢
        obtain ⟨X2, hX2⟩ : ∃ Y, (fun q => X q ∨ (bx ≤ q ∧ q < wx.heap.size)) = Y := ⟨_, rfl⟩
        have HXB : Aside0 (X2 bx) := ⟨by rw [← hX2]; exact .inr ⟨Nat.le_refl _, by omega⟩⟩
        rw [hX2] at HLX
        have HNX : Aside0 (Kd.N kBs 22 wx w.heap.size (fun q => q < w.heap.size ∨ X2 q) u9 rs) := ⟨by rw [← hX2]; exact HNX.out⟩
        have HBOX := Aside0.mk hbox
        have HV8 := Aside0.mk HP.out.v8
        have HBB8 := Aside0.mk HP.out.bb
        have HBL8 := Aside0.mk HP.out.bl
        have HBR8 := Aside0.mk HP.out.br
        have hb0 := (blk_cell hbox) 0
        have hb1 := (blk_cell hbox) 1
        have hrl : rs.length ≤ 5000 := by
          have h1 := HSZ.out
          have h2 := recB_le rs
          unfold img at h1
          rw [List.length_append] at h1
          omega
        clear hlx hN hbx hbox hszx hwx hbxe hX2 HP HP2
        go_cut [8, 9, 10, 11] (fun v8 v9 v10 v11 wy => ∃ (k2 sz2 : Nat) (b2 : List Int) (rs2 : List (List Int)), v10 = .int .i64 (k2 : Int) ∧ v11 = .int .i64 (sz2 : Int) ∧ k2 ≤ i + 1 ∧ (sz2 : Int) ≤ c ∧ Aside0 (PS w wy g l c v8 v9 k2 b2 rs2) ∧ Aside0 ((img b2 rs2).length = sz2))
        case first =>
          by_cases k1 : kd = 1
          · subst k1
            cases fit with
            | true =>
              have hft : (sz : Int) + ((nd : Int) + 9) ≤ c := of_decide_eq_true hfit
              have KA := App_X HLX.out Ad cd da (argV HDA.out HDC.out HLX.out.from) (fun q hq => .inl hq) HBD.out (by rw [HND.out]; omega) (by show rs.length ≤ 1000000; omega) (by show 0 ≤ ((img b rs).length : Int) ∧ ((img b rs).length : Int) ≤ 1000000000; rw [HSZ.out]; omega) (app_ws (k : Int) (img b rs) sf c _ b rs da (by omega) (by omega) (by rw [HND.out]; omega) (by rw [HSZ.out, HND.out]; omega))
              rw [← img_app, ← img_len] at KA
              have KA := Aside0.mk KA
              rw [HND.out] at KA
              clear hfit
              go_wp2_with (fail)
              refine KA.out.mono ?_
              rintro e w5 ⟨rfl, hx5, hk5⟩
              have HLX5 : Aside0 (LX w w5 g l (Dk.one (k : Int) (img b (rs ++ [da])) sf c) (ws (k : Int) (img b (rs ++ [da])).length b (rs ++ [da])) X2) := ⟨hx5⟩
              have HN5 := Aside0.mk (N_turn HNX.out HLX.out.from HLX5.out.from hk5)
              have hbox5 := (hk5 bx HXB.out).trans HBOX.out
              have hb15 := (blk_cell hbox5) 1
              have HBOX5 := Aside0.mk hbox5
              clear KA hx5 hk5 hbox5 hb0 hb1
              go_wp2_with (fail)
              have HFT := Aside0.mk hft
              have HWZ : Aside0 (IntKind.i64.wrap ((sz : Int) + ((nd : Int) + 9)) = ((sz + (nd + 9) : Nat) : Int)) := ⟨by rw [IntWalk.i64_in _ (by omega)]; omega⟩
              obtain ⟨A9, c9, rfl⟩ := Kd.N_slice HN5.out
              obtain ⟨nr, hnr⟩ : ∃ n, rs.length = n := ⟨_, rfl⟩
              have hn9 := HN5.out
              rw [hnr] at hn9 hrl ⊢
              have HN9 := Aside0.mk hn9
              have HNR9 := Aside0.mk hnr
              have HNR := Aside0.mk hrl
              have HW5 := Aside0.mk HLX5.out.from.size
              have HDA9 : Aside0 (Kd.V kB 5 w5 0 (fun q => q < w.heap.size) (.slice Ad nd cd) da) := ⟨by have h9 := argV HDA.out HDC.out HLX5.out.from; rw [HND.out] at h9; exact h9⟩
              have HS15 : Aside0 (w5.cell? ⟨bx, 1, none⟩ = some (.slice Ad nd cd)) := ⟨hb15⟩
              clear hn9 hnr HN5
              refine Sg.wp_region_part (S := fun w' => w'.cell? ⟨bx, 1, none⟩ = some (.slice Ad nd cd)) 11 (by kernel_rfl) (by kernel_rfl) HS15.out (fun hHeld => ?_)
              simp only [List.take_succ_cons, List.take_zero]
              refine wpAnyH_take (i := 1) (oi := { dst := _, op := _, type := _, pos := _, after := _, guard := _ }) (v := ?_) rfl (by kernel_rfl) (by kernel_rfl) (by kernel_rfl) (fun _ _ _ h => h) (Or.inl ⟨by rfl, ?_⟩) (by assumption) ?_
              rotate_left
              · (intro wq hSw; (try dsimp only at hSw); go_simp <;> with_reducible rfl)
              (try simp only [Act.put, List.setIfInBounds_toArray, List.set_cons_zero, List.set_cons_succ])
              refine wpAnyH_take (i := 3) (oi := { dst := _, op := _, type := _, pos := _, after := _, guard := _ }) (v := ?_) rfl (by kernel_rfl) (by kernel_rfl) (by kernel_rfl) (fun _ _ _ h => h) (Or.inl ⟨by rfl, ?_⟩) (by assumption) ?_
              rotate_left
              · (intro wq hSw; (try dsimp only at hSw); go_simp <;> with_reducible rfl)
              (try simp only [Act.put, List.setIfInBounds_toArray, List.set_cons_zero, List.set_cons_succ])
              refine wpAnyH_take (i := 4) (oi := { dst := _, op := _, type := _, pos := _, after := _, guard := _ }) (v := ?_) rfl (by kernel_rfl) (by kernel_rfl) (by kernel_rfl) (fun _ _ _ h => h) (Or.inl ⟨by rfl, ?_⟩) (by assumption) ?_
              rotate_left
              · (intro wq hSw; (try dsimp only at hSw); go_simp <;> with_reducible rfl)
              (try simp only [Act.put, List.setIfInBounds_toArray, List.set_cons_zero, List.set_cons_succ])
              refine wpAnyH_take (i := 7) (oi := { dst := _, op := _, type := _, pos := _, after := _, guard := _ }) (v := ?_) rfl (by kernel_rfl) (by kernel_rfl) (by kernel_rfl) (fun _ _ _ h => h) (Or.inl ⟨by rfl, ?_⟩) (by assumption) ?_
              rotate_left
              · (intro wq hSw; (try dsimp only at hSw); go_simp <;> with_reducible rfl)
              (try simp only [Act.put, List.setIfInBounds_toArray, List.set_cons_zero, List.set_cons_succ])
              refine wpAnyH_take (i := 8) (oi := { dst := _, op := _, type := _, pos := _, after := _, guard := _ }) (v := ?_) rfl (by kernel_rfl) (by kernel_rfl) (by kernel_rfl) (fun _ _ _ h => h) (Or.inl ⟨by rfl, ?_⟩) (by assumption) ?_
              rotate_left
              · (intro wq hSw; (try dsimp only at hSw); go_simp <;> with_reducible rfl)
              (try simp only [Act.put, List.setIfInBounds_toArray, List.set_cons_zero, List.set_cons_succ])
              refine wpAnyH_take (i := 9) (oi := { dst := _, op := _, type := _, pos := _, after := _, guard := _ }) (v := ?_) rfl (by kernel_rfl) (by kernel_rfl) (by kernel_rfl) (fun _ _ _ h => h) (Or.inl ⟨by rfl, ?_⟩) (by assumption) ?_
              rotate_left
              · (intro wq hSw; (try dsimp only at hSw); go_simp <;> with_reducible rfl)
              (try simp only [Act.put, List.setIfInBounds_toArray, List.set_cons_zero, List.set_cons_succ])
              refine wpAnyH_ready (rs := [0, 5]) (by kernel_rfl) (by simp) ?_
              refine AllReadyH.cons (o := { dst := _, op := _, type := _, pos := _, after := _, guard := _ }) rfl (fun K hK => ?_) ?_
              rotate_left
              refine AllReadyH.cons (o := { dst := _, op := _, type := _, pos := _, after := _, guard := _ }) rfl (fun K hK => ?_) AllReadyH.nil
              rotate_left
              · --
                go_simp
                refine hK.out _ _ (pw_cell_below (below_alloc (below_drew (Below.refl w5.heap.size w5)) (.cells #[] 22)) HS15.out) (fun hHeld => ?_)
                clear hK K
                (try simp only [Act.put, List.setIfInBounds_toArray, List.set_cons_zero, List.set_cons_succ])
                refine wpAnyH_ready (rs := [2, 5]) (by kernel_rfl) (by simp) ?_
                refine AllReadyH.cons (o := { dst := _, op := _, type := _, pos := _, after := _, guard := _ }) rfl (fun K hK => ?_) ?_
                rotate_left
                refine AllReadyH.cons (o := { dst := _, op := _, type := _, pos := _, after := _, guard := _ }) rfl (fun K hK => ?_) AllReadyH.nil
                rotate_left
                · --
                  refine Kd.N_append_rows_step kBs (w0 := w5) w5.heap.size (by simp [Region.wanted]) (.tmp 92) (.tmp 93) 57 22 (.slice none 0 0) 24 rfl Try.underlying57 infoBS rfl (by decide) (by decide) (.slice (some ⟨w5.drew.heap.size, 0, none⟩) 0 0) [] rs A9 nr c9 (fun q => q < w.heap.size ∨ X2 q ∨ w5.heap.size ≤ q) (fun q => (q < w.heap.size ∨ X2 q) ∧ q < w5.heap.size) (by simp [Act.eval, Act.put]) (by simp [Act.eval, Act.put]) (N_empty w5.drew (.inr (.inr (Nat.le_refl _))) (Nat.le_refl _)) (F9_at HN9.out (below_alloc (below_drew (Below.refl w5.heap.size w5)) (.cells #[] 22))) (fun q hq => ⟨hq.1.elim .inl (fun h => .inr (.inl h)), fun e => by have := hq.2; simp [Value.ownBlock] at e; omega⟩) (fun q hq => .inr (.inr (Nat.le_trans (below_alloc (below_drew (Below.refl w5.heap.size w5)) (.cells #[] 22)).size hq))) (below_alloc (below_drew (Below.refl w5.heap.size w5)) (.cells #[] 22)) (below_alloc (below_drew (Below.refl w5.heap.size w5)) (.cells #[] 22)).size (by have := HNR.out; simp; omega) ?_
                  intro v6 w6 hN6 hB6 hg6 hat6
                  rw [List.nil_append] at hN6
                  obtain ⟨A6, c6, rfl⟩ := Kd.N_slice hN6
                  rw [HNR9.out] at hN6 hat6 ⊢
                  have HN6 := Aside0.mk hN6
                  have HB6 := Aside0.mk hB6
                  clear hN6 hg6 hat6 hHeld
                  refine hK.out _ _ (pw_cell_below hB6 HS15.out) (fun hHeld => ?_)
                  clear hK K hB6
                  (try simp only [Act.put, List.setIfInBounds_toArray, List.set_cons_zero, List.set_cons_succ])
                  refine wpAnyH_ready (rs := [5]) (by kernel_rfl) (by simp) ?_
                  refine AllReadyH.cons (o := { dst := _, op := _, type := _, pos := _, after := _, guard := _ }) rfl (fun K hK => ?_) ?_
                  rotate_left
                  · exact AllReadyH.nil
                  go_simp
                  refine hK.out _ _ (pw_cell_below (below_alloc HB6.out (.cells #[.slice Ad nd cd] 22)) HS15.out) (fun hHeld => ?_)
                  clear hK K
                  (try simp only [Act.put, List.setIfInBounds_toArray, List.set_cons_zero, List.set_cons_succ])
                  refine wpAnyH_ready (rs := [6]) (by kernel_rfl) (by simp) ?_
                  refine AllReadyH.cons (o := { dst := _, op := _, type := _, pos := _, after := _, guard := _ }) rfl (fun K hK => ?_) ?_
                  rotate_left
                  · exact AllReadyH.nil
                  refine Kd.N_append_step kBs (w0 := w5) w5.heap.size (by simp [Region.wanted]) (.tmp 94) (.tmp 97) 57 22 (.slice none 0 0) 24 rfl Try.underlying57 infoBS rfl (by decide) (by decide) (.slice A6 nr c6) rs da [.slice Ad nd cd] (fun q => q < w.heap.size ∨ X2 q ∨ w5.heap.size ≤ q) (fun q => q < w.heap.size) (by simp [Act.eval, Act.put]) (by simp [Act.eval, Act.put]) (Kd.FK_mono (FK_da HDA9.out (HB6.out)) (fun q hq => hq)) (fun q hq => ⟨.inl hq, fun e => by have := Kd.N_base HN6.out q e.symm; have := HW5.out; omega⟩) (fun q hq => .inr (.inr (Nat.le_trans (HB6.out).size hq))) HN6.out (HB6.out) (HB6.out).size (by have := HNR.out; have := HNR9.out; omega) ?_
                  intro v7 w7 hN7 hB7 hg7 hat7
                  obtain ⟨A7, c7, rfl⟩ := Kd.N_slice hN7
                  obtain ⟨n7, hn7⟩ : ∃ n, (rs ++ [da]).length = n := ⟨_, rfl⟩
                  rw [hn7] at hN7 ⊢
                  have HN7 := Aside0.mk hN7
                  have HB7 := Aside0.mk hB7
                  clear hN7 hg7 hat7 hHeld
                  refine hK.out _ _ (pw_cell_below hB7 HS15.out) (fun hHeld => ?_)
                  clear hK K hB7
                  (try simp only [Act.put, List.setIfInBounds_toArray, List.set_cons_zero, List.set_cons_succ])
                  refine wpAnyH_take (i := 10) (oi := { dst := _, op := _, type := _, pos := _, after := _, guard := _ }) (v := ?_) rfl (by kernel_rfl) (by kernel_rfl) (by kernel_rfl) (fun _ _ _ h => h) (Or.inl ⟨by rfl, ?_⟩) (by assumption) ?_
                  rotate_left
                  · (intro wq hSw; (try dsimp only at hSw); go_simp <;> with_reducible rfl)
                  (try simp only [Act.put, List.setIfInBounds_toArray, List.set_cons_zero, List.set_cons_succ])
                  clear hHeld
                  refine wpAnyH_done (by kernel_rfl) ?_ _
                  refine Sg.Part.norm ?_
                  simp only [List.drop_succ_cons, List.drop_zero]
                  go_wp2_with (fail)
                  go_meet
                  exact ⟨k, sz + (nd + 9), b, rs ++ [da], rfl, (by first | rfl | exact congrArg _ HWZ.out | (congr 1; omega)), by omega, by have := HFT.out; omega, ⟨play_app HLX5.out HB7.out HN7.out HV8.out HBB8.out HBL8.out HBR8.out HBD.out (by rw [HND.out]; exact hnd3)⟩, ⟨by rw [img_len, HSZ.out, HND.out]⟩⟩
                · --
                  go_simp
                  refine hK.out _ _ (pw_cell_below (below_alloc (below_alloc (below_drew (Below.refl w5.heap.size w5)) (.cells #[] 22)) (.cells #[.slice Ad nd cd] 22)) HS15.out) (fun hHeld => ?_)
                  clear hK K
                  (try simp only [Act.put, List.setIfInBounds_toArray, List.set_cons_zero, List.set_cons_succ])
                  refine wpAnyH_ready (rs := [2]) (by kernel_rfl) (by simp) ?_
                  refine AllReadyH.cons (o := { dst := _, op := _, type := _, pos := _, after := _, guard := _ }) rfl (fun K hK => ?_) ?_
                  rotate_left
                  · exact AllReadyH.nil
                  refine Kd.N_append_rows_step kBs (w0 := w5) w5.heap.size (by simp [Region.wanted]) (.tmp 92) (.tmp 93) 57 22 (.slice none 0 0) 24 rfl Try.underlying57 infoBS rfl (by decide) (by decide) (.slice (some ⟨w5.drew.heap.size, 0, none⟩) 0 0) [] rs A9 nr c9 (fun q => q < w.heap.size ∨ X2 q ∨ w5.heap.size ≤ q) (fun q => (q < w.heap.size ∨ X2 q) ∧ q < w5.heap.size) (by simp [Act.eval, Act.put]) (by simp [Act.eval, Act.put]) (Kd.N_alloc (N_empty w5.drew (.inr (.inr (Nat.le_refl _))) (Nat.le_refl _)) (.cells #[.slice Ad nd cd] 22)) (F9_at HN9.out (below_alloc (below_alloc (below_drew (Below.refl w5.heap.size w5)) (.cells #[] 22)) (.cells #[.slice Ad nd cd] 22))) (fun q hq => ⟨hq.1.elim .inl (fun h => .inr (.inl h)), fun e => by have := hq.2; simp [Value.ownBlock] at e; omega⟩) (fun q hq => .inr (.inr (Nat.le_trans (below_alloc (below_alloc (below_drew (Below.refl w5.heap.size w5)) (.cells #[] 22)) (.cells #[.slice Ad nd cd] 22)).size hq))) (below_alloc (below_alloc (below_drew (Below.refl w5.heap.size w5)) (.cells #[] 22)) (.cells #[.slice Ad nd cd] 22)) (below_alloc (below_alloc (below_drew (Below.refl w5.heap.size w5)) (.cells #[] 22)) (.cells #[.slice Ad nd cd] 22)).size (by have := HNR.out; simp; omega) ?_
                  intro v6 w6 hN6 hB6 hg6 hat6
                  rw [List.nil_append] at hN6
                  obtain ⟨A6, c6, rfl⟩ := Kd.N_slice hN6
                  rw [HNR9.out] at hN6 hat6 ⊢
                  have hs1 : (w5.drew.alloc (.cells #[] 22)).heap.size = w5.heap.size + 1 := World.size_alloc _ _
                  have hs2 : ((w5.drew.alloc (.cells #[] 22)).alloc (.cells #[.slice Ad nd cd] 22)).heap.size = w5.heap.size + 2 := by rw [World.size_alloc, hs1]
                  have HLIT : Aside0 (w6.heap[(w5.drew.alloc (.cells #[] 22)).heap.size]? = some (.cells #[.slice Ad nd cd] 22)) := ⟨(hg6.block (w5.drew.alloc (.cells #[] 22)).heap.size (show (w5.drew.alloc (.cells #[] 22)).heap.size < ((w5.drew.alloc (.cells #[] 22)).alloc (.cells #[.slice Ad nd cd] 22)).heap.size from by rw [hs2, hs1]; omega) (fun e => by
                    have e2 : (w5.drew.alloc (.cells #[] 22)).heap.size = w5.heap.size := Option.some.inj e
                    omega)).trans (new_block (w5.drew.alloc (.cells #[] 22)) (.cells #[.slice Ad nd cd] 22))⟩
                  have HNE6 : Aside0 (∀ q, (Value.slice A6 nr c6).ownBlock = some q → w5.heap.size ≤ q ∧ q ≠ (w5.drew.alloc (.cells #[] 22)).heap.size) := ⟨fun q hq => by
                    rw [hs1]
                    rcases hat6 with h | ⟨b, hb, hbs⟩
                    · rw [h] at hq
                      have hq2 : w5.heap.size = q := Option.some.inj hq
                      omega
                    · rw [hb] at hq
                      have hq2 : b = q := Option.some.inj hq
                      have hbs2 : ((w5.drew.alloc (.cells #[] 22)).alloc (.cells #[.slice Ad nd cd] 22)).heap.size ≤ b := hbs
                      rw [hs2] at hbs2
                      omega⟩
                  clear hs1 hs2
                  have HN6 := Aside0.mk hN6
                  have HB6 := Aside0.mk hB6
                  clear hN6 hg6 hat6 hHeld
                  refine hK.out _ _ (pw_cell_below hB6 HS15.out) (fun hHeld => ?_)
                  clear hK K hB6
                  (try simp only [Act.put, List.setIfInBounds_toArray, List.set_cons_zero, List.set_cons_succ])
                  have HLB : Aside0 (w5.heap.size ≤ (w5.drew.alloc (.cells #[] 22)).heap.size) := ⟨(below_alloc (below_drew (Below.refl w5.heap.size w5)) (.cells #[] 22)).size⟩
                  have HFL : Aside0 (Kd.F kBs w6 (fun q => (q < w.heap.size ∨ q = (w5.drew.alloc (.cells #[] 22)).heap.size) ∧ some q ≠ (Value.slice A6 nr c6).ownBlock) (some ⟨(w5.drew.alloc (.cells #[] 22)).heap.size, 0, none⟩) 1 [da]) := ⟨F_lit HDA9.out HW5.out HB6.out HLIT.out HNE6.out⟩
                  refine wpAnyH_ready (rs := [6]) (by kernel_rfl) (by simp) ?_
                  refine AllReadyH.cons (o := { dst := _, op := _, type := _, pos := _, after := _, guard := _ }) rfl (fun K hK => ?_) ?_
                  rotate_left
                  · exact AllReadyH.nil
                  refine Kd.N_append_rows_step kBs (w0 := w5) w5.heap.size (by simp [Region.wanted]) (.tmp 94) (.tmp 97) 57 22 (.slice none 0 0) 24 rfl Try.underlying57 infoBS rfl (by decide) (by decide) (.slice A6 nr c6) rs [da] (some ⟨(w5.drew.alloc (.cells #[] 22)).heap.size, 0, none⟩) 1 1 (fun q => q < w.heap.size ∨ X2 q ∨ w5.heap.size ≤ q) (fun q => (q < w.heap.size ∨ q = (w5.drew.alloc (.cells #[] 22)).heap.size) ∧ some q ≠ (Value.slice A6 nr c6).ownBlock) (by simp [Act.eval, Act.put]) (by simp [Act.eval, Act.put]) HN6.out HFL.out (fun q hq => ⟨by rcases hq.1 with h | h; exact .inl h; exact .inr (.inr (by have := HLB.out; omega)), hq.2⟩) (fun q hq => .inr (.inr (Nat.le_trans HB6.out.size hq))) HB6.out HB6.out.size (by have := HNR.out; have := HNR9.out; omega) ?_
                  intro v7 w7 hN7 hB7 hg7 hat7
                  obtain ⟨A7, c7, rfl⟩ := Kd.N_slice hN7
                  obtain ⟨n7, hn7⟩ : ∃ n, (rs ++ [da]).length = n := ⟨_, rfl⟩
                  rw [hn7] at hN7 ⊢
                  have HN7 := Aside0.mk hN7
                  have HB7 := Aside0.mk hB7
                  clear hN7 hg7 hat7 hHeld
                  refine hK.out _ _ (pw_cell_below hB7 HS15.out) (fun hHeld => ?_)
                  clear hK K hB7
                  (try simp only [Act.put, List.setIfInBounds_toArray, List.set_cons_zero, List.set_cons_succ])
                  refine wpAnyH_take (i := 10) (oi := { dst := _, op := _, type := _, pos := _, after := _, guard := _ }) (v := ?_) rfl (by kernel_rfl) (by kernel_rfl) (by kernel_rfl) (fun _ _ _ h => h) (Or.inl ⟨by rfl, ?_⟩) (by assumption) ?_
                  rotate_left
                  · (intro wq hSw; (try dsimp only at hSw); go_simp <;> with_reducible rfl)
                  (try simp only [Act.put, List.setIfInBounds_toArray, List.set_cons_zero, List.set_cons_succ])
                  clear hHeld
                  refine wpAnyH_done (by kernel_rfl) ?_ _
                  refine Sg.Part.norm ?_
                  simp only [List.drop_succ_cons, List.drop_zero]
                  go_wp2_with (fail)
                  go_meet
                  exact ⟨k, sz + (nd + 9), b, rs ++ [da], rfl, (by first | rfl | exact congrArg _ HWZ.out | (congr 1; omega)), by omega, by have := HFT.out; omega, ⟨play_app HLX5.out HB7.out HN7.out HV8.out HBB8.out HBL8.out HBR8.out HBD.out (by rw [HND.out]; exact hnd3)⟩, ⟨by rw [img_len, HSZ.out, HND.out]⟩⟩
              · --
                go_simp
                refine hK.out _ _ (pw_cell_below (below_alloc (below_drew (Below.refl w5.heap.size w5)) (.cells #[.slice Ad nd cd] 22)) HS15.out) (fun hHeld => ?_)
                clear hK K
                (try simp only [Act.put, List.setIfInBounds_toArray, List.set_cons_zero, List.set_cons_succ])
                refine wpAnyH_ready (rs := [0]) (by kernel_rfl) (by simp) ?_
                refine AllReadyH.cons (o := { dst := _, op := _, type := _, pos := _, after := _, guard := _ }) rfl (fun K hK => ?_) ?_
                rotate_left
                · exact AllReadyH.nil
                go_simp
                refine hK.out _ _ (pw_cell_below (below_alloc (below_alloc (below_drew (Below.refl w5.heap.size w5)) (.cells #[.slice Ad nd cd] 22)) (.cells #[] 22)) HS15.out) (fun hHeld => ?_)
                clear hK K
                (try simp only [Act.put, List.setIfInBounds_toArray, List.set_cons_zero, List.set_cons_succ])
                refine wpAnyH_ready (rs := [2]) (by kernel_rfl) (by simp) ?_
                refine AllReadyH.cons (o := { dst := _, op := _, type := _, pos := _, after := _, guard := _ }) rfl (fun K hK => ?_) ?_
                rotate_left
                · exact AllReadyH.nil
                refine Kd.N_append_rows_step kBs (w0 := w5) w5.heap.size (by simp [Region.wanted]) (.tmp 92) (.tmp 93) 57 22 (.slice none 0 0) 24 rfl Try.underlying57 infoBS rfl (by decide) (by decide) (.slice (some ⟨(w5.drew.alloc (.cells #[.slice Ad nd cd] 22)).heap.size, 0, none⟩) 0 0) [] rs A9 nr c9 (fun q => q < w.heap.size ∨ X2 q ∨ w5.heap.size ≤ q) (fun q => (q < w.heap.size ∨ X2 q) ∧ q < w5.heap.size) (by simp [Act.eval, Act.put]) (by simp [Act.eval, Act.put]) (N_empty (w5.drew.alloc (.cells #[.slice Ad nd cd] 22)) (.inr (.inr (below_alloc (below_drew (Below.refl w5.heap.size w5)) (.cells #[.slice Ad nd cd] 22)).size)) (below_alloc (below_drew (Below.refl w5.heap.size w5)) (.cells #[.slice Ad nd cd] 22)).size) (F9_at HN9.out (below_alloc (below_alloc (below_drew (Below.refl w5.heap.size w5)) (.cells #[.slice Ad nd cd] 22)) (.cells #[] 22))) (fun q hq => ⟨hq.1.elim .inl (fun h => .inr (.inl h)), fun e => by have := hq.2; simp [Value.ownBlock] at e; omega⟩) (fun q hq => .inr (.inr (Nat.le_trans (below_alloc (below_alloc (below_drew (Below.refl w5.heap.size w5)) (.cells #[.slice Ad nd cd] 22)) (.cells #[] 22)).size hq))) (below_alloc (below_alloc (below_drew (Below.refl w5.heap.size w5)) (.cells #[.slice Ad nd cd] 22)) (.cells #[] 22)) (below_alloc (below_alloc (below_drew (Below.refl w5.heap.size w5)) (.cells #[.slice Ad nd cd] 22)) (.cells #[] 22)).size (by have := HNR.out; simp; omega) ?_
                intro v6 w6 hN6 hB6 hg6 hat6
                rw [List.nil_append] at hN6
                obtain ⟨A6, c6, rfl⟩ := Kd.N_slice hN6
                rw [HNR9.out] at hN6 hat6 ⊢
                have hs1 : (w5.drew.alloc (.cells #[.slice Ad nd cd] 22)).heap.size = w5.heap.size + 1 := World.size_alloc _ _
                have hs2 : ((w5.drew.alloc (.cells #[.slice Ad nd cd] 22)).alloc (.cells #[] 22)).heap.size = w5.heap.size + 2 := by rw [World.size_alloc, hs1]
                have HLIT : Aside0 (w6.heap[w5.drew.heap.size]? = some (.cells #[.slice Ad nd cd] 22)) := ⟨((hg6.block w5.drew.heap.size (show w5.drew.heap.size < ((w5.drew.alloc (.cells #[.slice Ad nd cd] 22)).alloc (.cells #[] 22)).heap.size from by rw [hs2]; show w5.heap.size < _; omega) (fun e => by
                  have e2 : w5.heap.size = (w5.drew.alloc (.cells #[.slice Ad nd cd] 22)).heap.size := Option.some.inj e
                  omega)).trans ((below_alloc (Below.refl (w5.drew.alloc (.cells #[.slice Ad nd cd] 22)).heap.size (w5.drew.alloc (.cells #[.slice Ad nd cd] 22))) (.cells #[] 22)).block w5.drew.heap.size (by rw [hs1]; show w5.heap.size < _; omega))).trans (new_block _ _)⟩
                have HNE6 : Aside0 (∀ q, (Value.slice A6 nr c6).ownBlock = some q → w5.heap.size ≤ q ∧ q ≠ w5.drew.heap.size) := ⟨fun q hq => by
                  show w5.heap.size ≤ q ∧ q ≠ w5.heap.size
                  rcases hat6 with h | ⟨b, hb, hbs⟩
                  · rw [h] at hq
                    have hq2 : (w5.drew.alloc (.cells #[.slice Ad nd cd] 22)).heap.size = q := Option.some.inj hq
                    omega
                  · rw [hb] at hq
                    have hq2 : b = q := Option.some.inj hq
                    have hbs2 : ((w5.drew.alloc (.cells #[.slice Ad nd cd] 22)).alloc (.cells #[] 22)).heap.size ≤ b := hbs
                    rw [hs2] at hbs2
                    omega⟩
                clear hs1 hs2
                have HN6 := Aside0.mk hN6
                have HB6 := Aside0.mk hB6
                clear hN6 hg6 hat6 hHeld
                refine hK.out _ _ (pw_cell_below hB6 HS15.out) (fun hHeld => ?_)
                clear hK K hB6
                (try simp only [Act.put, List.setIfInBounds_toArray, List.set_cons_zero, List.set_cons_succ])
                have HLB : Aside0 (w5.heap.size ≤ w5.drew.heap.size) := ⟨Nat.le_refl _⟩
                have HFL : Aside0 (Kd.F kBs w6 (fun q => (q < w.heap.size ∨ q = w5.drew.heap.size) ∧ some q ≠ (Value.slice A6 nr c6).ownBlock) (some ⟨w5.drew.heap.size, 0, none⟩) 1 [da]) := ⟨F_lit HDA9.out HW5.out HB6.out HLIT.out HNE6.out⟩
                refine wpAnyH_ready (rs := [6]) (by kernel_rfl) (by simp) ?_
                refine AllReadyH.cons (o := { dst := _, op := _, type := _, pos := _, after := _, guard := _ }) rfl (fun K hK => ?_) ?_
                rotate_left
                · exact AllReadyH.nil
                refine Kd.N_append_rows_step kBs (w0 := w5) w5.heap.size (by simp [Region.wanted]) (.tmp 94) (.tmp 97) 57 22 (.slice none 0 0) 24 rfl Try.underlying57 infoBS rfl (by decide) (by decide) (.slice A6 nr c6) rs [da] (some ⟨w5.drew.heap.size, 0, none⟩) 1 1 (fun q => q < w.heap.size ∨ X2 q ∨ w5.heap.size ≤ q) (fun q => (q < w.heap.size ∨ q = w5.drew.heap.size) ∧ some q ≠ (Value.slice A6 nr c6).ownBlock) (by simp [Act.eval, Act.put]) (by simp [Act.eval, Act.put]) HN6.out HFL.out (fun q hq => ⟨by rcases hq.1 with h | h; exact .inl h; exact .inr (.inr (by have := HLB.out; omega)), hq.2⟩) (fun q hq => .inr (.inr (Nat.le_trans HB6.out.size hq))) HB6.out HB6.out.size (by have := HNR.out; have := HNR9.out; omega) ?_
                intro v7 w7 hN7 hB7 hg7 hat7
                obtain ⟨A7, c7, rfl⟩ := Kd.N_slice hN7
                obtain ⟨n7, hn7⟩ : ∃ n, (rs ++ [da]).length = n := ⟨_, rfl⟩
                rw [hn7] at hN7 ⊢
                have HN7 := Aside0.mk hN7
                have HB7 := Aside0.mk hB7
                clear hN7 hg7 hat7 hHeld
                refine hK.out _ _ (pw_cell_below hB7 HS15.out) (fun hHeld => ?_)
                clear hK K hB7
                (try simp only [Act.put, List.setIfInBounds_toArray, List.set_cons_zero, List.set_cons_succ])
                refine wpAnyH_take (i := 10) (oi := { dst := _, op := _, type := _, pos := _, after := _, guard := _ }) (v := ?_) rfl (by kernel_rfl) (by kernel_rfl) (by kernel_rfl) (fun _ _ _ h => h) (Or.inl ⟨by rfl, ?_⟩) (by assumption) ?_
                rotate_left
                · (intro wq hSw; (try dsimp only at hSw); go_simp <;> with_reducible rfl)
                (try simp only [Act.put, List.setIfInBounds_toArray, List.set_cons_zero, List.set_cons_succ])
                clear hHeld
                refine wpAnyH_done (by kernel_rfl) ?_ _
                refine Sg.Part.norm ?_
                simp only [List.drop_succ_cons, List.drop_zero]
                go_wp2_with (fail)
                go_meet
                exact ⟨k, sz + (nd + 9), b, rs ++ [da], rfl, (by first | rfl | exact congrArg _ HWZ.out | (congr 1; omega)), by omega, by have := HFT.out; omega, ⟨play_app HLX5.out HB7.out HN7.out HV8.out HBB8.out HBL8.out HBR8.out HBD.out (by rw [HND.out]; exact hnd3)⟩, ⟨by rw [img_len, HSZ.out, HND.out]⟩⟩
            | false =>
              have hft : ¬ (sz : Int) + ((nd : Int) + 9) ≤ c := of_decide_eq_false hfit
              have KA := Aside0.mk (App_X HLX.out Ad cd da (argV HDA.out HDC.out HLX.out.from) (fun q hq => .inl hq) HBD.out (by rw [HND.out]; omega) (by show rs.length ≤ 1000000; omega) (by show 0 ≤ ((img b rs).length : Int) ∧ ((img b rs).length : Int) ≤ 1000000000; rw [HSZ.out]; omega) (app_no (k : Int) (img b rs) sf c _ b rs da (by omega) (by omega) (by rw [HND.out]; omega) (by rw [HSZ.out, HND.out]; omega)))
              rw [HND.out] at KA
              clear hfit
              go_wp2_with (fail)
              refine KA.out.mono ?_
              rintro e w5 ⟨rfl, hx5, hk5⟩
              have HLX5 : Aside0 (LX w w5 g l (Dk.one (k : Int) (img b rs) sf c) (ws (k : Int) (img b rs).length b rs) X2) := ⟨hx5⟩
              have HN5 := Aside0.mk (N_turn HNX.out HLX.out.from HLX5.out.from hk5)
              clear KA hx5 hk5 hb0 hb1
              go_wp2
              go_meet
              exact ⟨k, sz, b, rs, rfl, rfl, by omega, hszc, ⟨⟨⟨X2, sf, HLX5.out, HN5.out⟩, HV8.out, HBB8.out, HBL8.out, HBR8.out⟩⟩, HSZ⟩
          · have e3 : (kd == 1) = false := beq_eq_false_iff_ne.2 k1
            by_cases k2 : kd = 2
            · subst k2
              have KA := Aside0.mk (Syn_X HLX.out (syn_ws (k : Int) (img b rs) sf c _ b rs))
              clear hfit
              go_wp2_with (fail)
              refine KA.out.mono ?_
              rintro e w5 ⟨rfl, hx5, hk5⟩
              have HLX5 : Aside0 (LX w w5 g l (Dk.one (k : Int) (img b rs) (img b rs).length c) (ws (k : Int) (img b rs).length b rs) X2) := ⟨hx5⟩
              have HN5 := Aside0.mk (N_turn HNX.out HLX.out.from HLX5.out.from hk5)
              clear KA hx5 hk5 hb0 hb1
              go_wp2
              go_meet
              exact ⟨k, sz, b, rs, rfl, rfl, by omega, hszc, ⟨⟨⟨X2, _, HLX5.out, HN5.out⟩, HV8.out, HBB8.out, HBL8.out, HBR8.out⟩⟩, HSZ⟩
            · have e4 : (kd == 2) = false := beq_eq_false_iff_ne.2 k2
              by_cases k3 : kd = 3
              · subst k3
                cases fit with
                | true =>
                  have hft : (sz : Int) + ((nd : Int) + 9) ≤ c := of_decide_eq_true hfit
                  have KA := Aside0.mk (Rot_X HLX.out Ad cd da (argV HDA.out HDC.out HLX.out.from) (fun q hq => .inl hq) HBD.out (by rw [HND.out]; omega) (by show -10 ≤ (k : Int) ∧ (k : Int) ≤ 10000000; omega) (rot_ws (k : Int) (img b rs) sf c _ b rs da (by omega) (by omega) (by rw [HND.out]; omega) (by rw [HSZ.out, HND.out]; omega)))
                  rw [HND.out] at KA
                  clear hfit
                  go_wp2_with (fail)
                  refine KA.out.mono ?_
                  rintro e w5 ⟨rfl, hx5, hk5⟩
                  have himg : (img da []).length = nd + 9 := by rw [img_nil, frame_len, List.length_cons, HND.out]
                  have HLX5 : Aside0 (LX w w5 g l (Dk.one ((k + 1 : Nat) : Int) (img da []) (nd + 9) c) (ws ((k + 1 : Nat) : Int) (img da []).length da []) X2) := ⟨by
                    rw [himg, img_nil]
                    exact hx5⟩
                  have hbox5 := (hk5 bx HXB.out).trans HBOX.out
                  have hb15 := (blk_cell hbox5) 1
                  have HIMG := Aside0.mk himg
                  clear KA hx5 hk5 hbox5 hb0 hb1 himg
                  go_wp2
                  go_meet
                  exact ⟨k + 1, nd + 9, da, [], by congr 1, by congr 1, by omega, by omega, ⟨⟨⟨X2, _, HLX5.out, Kd.N_nil _ _ _ _ _⟩, ⟨Ad, cd, by rw [HND.out], HDA.out, HDC.out⟩, HBD.out, by rw [HND.out]; exact hnd3, fun r hr => by cases hr⟩⟩, HIMG⟩
                | false =>
                  have hft : ¬ (sz : Int) + ((nd : Int) + 9) ≤ c := of_decide_eq_false hfit
                  have KA := Aside0.mk (Rot_X HLX.out Ad cd da (argV HDA.out HDC.out HLX.out.from) (fun q hq => .inl hq) HBD.out (by rw [HND.out]; omega) (by show -10 ≤ (k : Int) ∧ (k : Int) ≤ 10000000; omega) (rot_no (k : Int) (img b rs) sf c _ b rs da (by omega) (by omega) (by rw [HND.out]; omega) (by rw [HSZ.out, HND.out]; omega)))
                  rw [HND.out] at KA
                  clear hfit
                  go_wp2_with (fail)
                  refine KA.out.mono ?_
                  rintro e w5 ⟨rfl, hx5, hk5⟩
                  have HLX5 : Aside0 (LX w w5 g l (Dk.one (k : Int) (img b rs) sf c) (ws (k : Int) (img b rs).length b rs) X2) := ⟨hx5⟩
                  have HN5 := Aside0.mk (N_turn HNX.out HLX.out.from HLX5.out.from hk5)
                  clear KA hx5 hk5 hb0 hb1
                  go_wp2
                  go_meet
                  exact ⟨k, sz, b, rs, rfl, rfl, by omega, hszc, ⟨⟨⟨X2, sf, HLX5.out, HN5.out⟩, HV8.out, HBB8.out, HBL8.out, HBR8.out⟩⟩, HSZ⟩
              · have e5 : (kd == 3) = false := beq_eq_false_iff_ne.2 k3
                clear hfit
                go_wp2
                go_meet
                exact ⟨k, sz, b, rs, rfl, rfl, by omega, hszc, ⟨⟨⟨X2, sf, HLX.out, HNX.out⟩, HV8.out, HBB8.out, HBL8.out, HBR8.out⟩⟩, HSZ⟩
        case rest =>
          obtain ⟨k2, sz2, b2, rs2, rfl, rfl, hk2, hsz2, HPC, HSZ2⟩ := hcut
          clear HLX HNX HBOX HV8 HBB8 HBL8 HBR8 HSZ hb0 hb1 hrl hfit HXB
          obtain ⟨La, lc, rfl, hCb, hcb⟩ := HPC.out.v8
          obtain ⟨A9, c9, rfl⟩ : ∃ A9 c9, u9 = .slice A9 rs2.length c9 := by
            obtain ⟨X, sf, _, hN⟩ := HPC.out.lx
            exact Kd.N_slice hN
          have HBR := Aside0.mk HPC.out.br
          obtain ⟨nb, hnb⟩ : ∃ n, b2.length = n := ⟨_, rfl⟩
          obtain ⟨nr, hnr⟩ : ∃ n, rs2.length = n := ⟨_, rfl⟩
          have HPC2 : Aside0 (PS w wc g l c (.slice La nb lc) (.slice A9 nr c9) k2 b2 rs2) := ⟨by rw [← hnb, ← hnr]; exact HPC.out⟩
          have HN9 : Aside0 (Kd.V kBs 22 wc 0 (fun q => q < wc.heap.size) (.slice A9 nr c9) rs2) := ⟨by
            obtain ⟨X, sf, _, hN⟩ := HPC2.out.lx
            exact Kd.V_mono (Kd.V_bound (Kd.N_V hN)) (fun q hq => hq.2)⟩
          have hnb3 : nb ≤ 300 := by rw [← hnb]; exact HPC.out.bl
          have hnr3 : nr ≤ 5000 := by
            have h1 := HSZ2.out
            have h2 := recB_le rs2
            unfold img at h1
            rw [List.length_append] at h1
            omega
          have KF := Aside0.mk (refFrame_T 0 La lc b2 wc (Kd.C_below hCb HPC.out.from) hcb HPC.out.bb (by rw [hnb]; omega))
          have HCB := Aside0.mk hCb
          have HCC := Aside0.mk hcb
          have HNB := Aside0.mk hnb
          have HNR := Aside0.mk hnr
          rw [hnb] at KF
          rw [hnb, hnr]
          clear hCb hcb hnb hnr HPC
          go_wp2_with (fail)
          refine KF.out.mono ?_
          rintro e w5 ⟨v18, rfl, hv, hb⟩
          have hv : Kd.R kB 5 w5 wc.heap.size (fun _ => True) v18 (frame (0 :: b2)) := hv
          obtain ⟨A18, c18, rfl⟩ := Kd.R_slice hv
          obtain ⟨nf, hnf⟩ : ∃ n, (frame (0 :: b2)).length = n := ⟨_, rfl⟩
          rw [hnf] at hv ⊢
          have HV := Aside0.mk hv
          have HB5 := Aside0.mk hb
          have HNF := Aside0.mk hnf
          clear KF hv hb hnf
          go_wp2
          obtain ⟨ko, rfl⟩ : ∃ x, x = gk := ⟨_, rfl⟩
          go_loopg [18, 136] nr (fun kq v18 v136 w' => ∃ (j nn : Nat) (A : Option Addr) (cc : Nat), v136 = .int .i64 (j : Int) ∧ v18 = .slice A nn cc ∧ j + kq = nr ∧ Aside0 ((img b2 (rs2.take j)).length = nn) ∧ Aside0 (Kd.R kB 5 w' wc.heap.size (fun _ => True) (.slice A nn cc) (img b2 (rs2.take j))) ∧ Aside0 (Below wc.heap.size wc w'))
          case atStart => exact ⟨0, nf, A18, c18, rfl, rfl, by omega, ⟨by rw [List.take_zero, img_nil]; exact HNF.out⟩, ⟨by rw [List.take_zero, img_nil]; exact HV.out⟩, HB5⟩
          case round =>
            clear HV HB5
            obtain ⟨j, nn, A, cc, rfl, rfl, hkj, HNN, HR, HB⟩ := hrel
            by_cases hj : j < nr
            · have e6 : decide (j < nr) = true := decide_eq_true hj
              have hjl : j < rs2.length := by rw [HNR.out]; exact hj
              obtain ⟨x, hx⟩ : ∃ x, rs2[j]? = some x := ⟨_, List.getElem?_eq_getElem hjl⟩
              have hC9 := (Kd.V_reads' (Kd.V_below HN9.out HB.out)).2.2
              obtain ⟨a9, Ax, cx, rfl, hcell, hCx, hcx⟩ := rows_at hC9 j x hx
              have hce := hcell wr (Below.refl _ _)
              have hxb := HBR.out x (List.mem_of_getElem? hx)
              have KF := Aside0.mk (refFrame_T 1 Ax cx x wr hCx hcx hxb.1 (by have := hxb.2; omega))
              have HTK : Aside0 (img b2 (rs2.take (j + 1)) = img b2 (rs2.take j) ++ frame (1 :: x)) := ⟨by
                rw [List.take_add_one, hx, ← img_app]
                rfl⟩
              have HLL : Aside0 (((img b2 (rs2.take j)).length + (frame (1 :: x)).length) * 1 ≤ 140737488355328) := ⟨by
                have h1 := img_take_le b2 rs2 j
                have h2 := HSZ2.out
                have h3 := hxb.2
                rw [frame_len, List.length_cons]
                omega⟩
              have HWJ : Aside0 (wrap64 ((j : Int) + 1) = ((j + 1 : Nat) : Int)) := ⟨by unfold wrap64; omega⟩
              obtain ⟨nx, hnx⟩ : ∃ n, x.length = n := ⟨_, rfl⟩
              rw [hnx] at hce KF
              clear hjl hx hC9 hcell hCx hcx hxb hnx
              go_wp2_with (fail)
              refine KF.out.mono ?_
              rintro e w6 ⟨v6, rfl, hv6, hb6⟩
              have hv6 : Kd.R kB 5 w6 wr.heap.size (fun _ => True) v6 (frame (1 :: x)) := hv6
              obtain ⟨A6, c6, rfl⟩ := Kd.R_slice hv6
              have HR6 := Aside0.mk (Kd.R_below HR.out hb6)
              have HC6 := Aside0.mk (Kd.R_reads' hv6).2.2
              have HB6 := Aside0.mk (below_step HB.out hb6)
              obtain ⟨nf6, hnf6⟩ : ∃ n, (frame (1 :: x)).length = n := ⟨_, rfl⟩
              rw [hnf6] at HC6 HLL ⊢
              clear KF hv6 hb6 hce
              go_wp2_with (first | ((with_reducible refine gate_builtin (b := .append) (xs := #[.tmp 140, .tmp 142]) rfl ?_); at_builtin; go_must (refine Kd.R_append_rows kB (Rr := kB.K w6) (w0 := wc) wc.heap.size rfl (.tmp 140) (.tmp 142) 22 5 (.int .u8 0) 1 rfl Try.underlying22 infoB8 rfl (by decide) (by decide) (.slice A nn cc) (img b2 (rs2.take j)) (frame (1 :: x)) A6 nf6 c6 (fun _ => True) (fun _ => False) rfl rfl HR6.out HC6.out (fun _ _ h => h) (fun _ h => h.elim) (fun _ _ => trivial) HB6.out HB6.out.size HLL.out ?_; intro v7 w7 ho hb hgr hat; clear hgr hat; refine Halt.out ?_)))
              unfold Halt
              rw [← HTK.out] at ho
              obtain ⟨A7, c7, rfl⟩ := Kd.R_slice ho
              obtain ⟨n7, hn7⟩ : ∃ n, (img b2 (rs2.take (j + 1))).length = n := ⟨_, rfl⟩
              rw [hn7] at ho ⊢
              have HO7 := Aside0.mk ho
              have HB7 := Aside0.mk hb
              have HN7 := Aside0.mk hn7
              clear ho hb hn7 HR6 HC6 HB6
              go_wp2
              go_roundg (gk - 1)
              case measure => omega
              case rel => exact ⟨j + 1, n7, A7, c7, (by first | exact congrArg _ HWJ.out | rfl | (congr 1; go_num)), rfl, by omega, HN7, HO7, HB7⟩
            · have e6 : decide (j < nr) = false := decide_eq_false hj
              have hjn : rs2.take j = rs2 := List.take_of_length_le (by rw [HNR.out]; omega)
              rw [hjn] at HNN HR
              have hnn : nn = sz2 := HNN.out.symm.trans HSZ2.out
              subst hnn
              have HPD := Aside0.mk (HPC2.out.below HB.out)
              obtain ⟨sf2, hll⟩ := HPD.out.ll
              have KR := Read_L hll.lw (k2 : Int)
              rw [findE_one, bytes_one] at KR
              have KR := Aside0.mk KR
              have HLLw := Aside0.mk hll
              clear hj hjn hll
              go_wp2_with (fail)
              refine KR.out.mono ?_
              rintro e w6 ⟨v6, rfl, hv6, _, hb⟩
              obtain ⟨A6, c6, rfl⟩ := Kd.R_slice hv6
              have HL6 := Aside0.mk (HLLw.out.below hb)
              have HBS := Aside0.mk (below_step HB.out hb)
              have r6 := Kd.R_reads' hv6
              have r18 := Kd.R_reads' (Kd.R_below HR.out hb)
              have KE := same_T A6 A c6 cc (img b2 rs2) (img b2 rs2) w6 r6.2.2 r6.2.1 r18.2.2 (by rw [← r18.1]; exact r18.2.1) (by rw [HNN.out]; omega)
              rw [HNN.out, decide_eq_true (rfl : img b2 rs2 = img b2 rs2)] at KE
              have KE := Aside0.mk KE
              rw [HNN.out]
              clear hv6 hb KR HLLw r6 r18 HB HR HPD
              go_wp2_with (fail)
              refine KE.out.mono ?_
              rintro e w7 ⟨rfl, hb⟩
              have HL7 := Aside0.mk (HL6.out.below hb)
              have HBS7 := Aside0.mk (below_step HBS.out hb)
              have KS := Size_L HL7.out.lw
              rw [size_one, HNN.out] at KS
              have KS := Aside0.mk KS
              clear hb KE HL6 HBS
              go_wp2_with (fail)
              refine KS.out.mono ?_
              rintro e w8 ⟨rfl, _, hb⟩
              have HL8 := Aside0.mk (HL7.out.below hb)
              have HBS8 := Aside0.mk (below_step HBS7.out hb)
              have KZ := Aside0.mk (LSize_L HL8.out (n := (nn : Int)) (by show ((img b2 rs2).length : Int) = _; rw [HNN.out]))
              have KN := Aside0.mk (Name_L HL8.out (n := (k2 : Int)) rfl)
              have KB := Aside0.mk (Base_L HL8.out (b := b2) rfl (by rw [HNB.out]; omega))
              clear hb KS HL7 HBS7
              go_wp2_with (fail)
              refine KZ.out.mono ?_
              rintro e w9 ⟨rfl, rfl⟩
              clear KZ
              go_wp2_with (fail)
              refine KN.out.mono ?_
              rintro e w9 ⟨rfl, rfl⟩
              clear KN
              go_wp2_with (fail)
              refine KB.out.mono ?_
              rintro e w9 ⟨v9, rfl, hv9, hb⟩
              obtain ⟨A10, c10, rfl⟩ := Kd.R_slice hv9
              have HL9 := Aside0.mk (HL8.out.below hb)
              have HBS9 := Aside0.mk (below_step HBS8.out hb)
              have r9 := Kd.R_reads' hv9
              have KE := same_T A10 La c10 lc b2 b2 w9 r9.2.2 r9.2.1 (Kd.C_below HCB.out HL9.out.from) HCC.out (by rw [HNB.out]; omega)
              rw [HNB.out, decide_eq_true (rfl : b2 = b2)] at KE
              have KE := Aside0.mk KE
              rw [HNB.out]
              clear hv9 hb KB HL8 HBS8 r9
              go_wp2_with (fail)
              refine KE.out.mono ?_
              rintro e w10 ⟨rfl, hb⟩
              have HL10 := Aside0.mk (HL9.out.below hb)
              have HBS10 := Aside0.mk (below_step HBS9.out hb)
              have KR := Aside0.mk (Records_L HL10.out (rs := rs2) rfl (fun r hr => Nat.le_trans (HBR.out r hr).2 (by decide)) (by rw [HNR.out]; omega))
              clear hb KE HL9 HBS9
              go_wp2_with (fail)
              refine KR.out.mono ?_
              rintro e w11 ⟨v11, rfl, hv11, hb⟩
              obtain ⟨A11, c11, rfl⟩ := Kd.N_slice hv11
              have HBS11 := Aside0.mk (below_step HBS10.out hb)
              have r11 := Kd.N_reads' hv11
              have r9 := Kd.V_reads' (Kd.V_below HN9.out HBS11.out)
              have KE := sames_T A11 A9 c11 c9 rs2 rs2 w11 r11.2.2 r11.2.1 (by rw [HNR.out]; rw [← HNR.out]; exact r9.2.2) (by rw [HNR.out]; exact r9.2.1) (by rw [HNR.out]; omega) (fun x hx => Nat.le_trans (HBR.out x hx).2 (by decide))
              rw [HNR.out, decide_eq_true (rfl : rs2 = rs2)] at KE
              have KE := Aside0.mk KE
              rw [HNR.out]
              clear hv11 hb KR HL10 HBS10 r11 r9
              go_wp2_with (fail)
              refine KE.out.mono ?_
              rintro e w12 ⟨rfl, hb⟩
              have HPE := Aside0.mk (HPC2.out.below (below_step HBS11.out hb))
              clear hb KE HBS11 HPC2 HN9
              go_wp2
              go_roundg (ko - 1)
              case measure => omega
              case rel => exact ⟨i + 1, k2, nn, b2, rs2, (by first | exact congrArg _ HWI.out | rfl | (congr 1; go_num)), rfl, rfl, by omega, by omega, hsz2, HPE, HNN⟩
    · have e1 : decide (i < n1) = false := decide_eq_false hi
      clear hi
      go_wp2
      go_ret
      exact ⟨rfl, HP.out.from⟩
set_option maxHeartbeats 8000000 in
set_option maxRecDepth 100000 in
theorem WalPlays_big (c : Int) (l1 : List (Int × List Int × List Int)) (A1 : Option Addr) (c1 : Nat) (w : World) (hbig : ¬ ((9 ≤ c ∧ c ≤ 5000) ∧ l1.length ≤ 40)) :
    Calls Try.prog 11 #[.int .i64 c, .slice A1 l1.length c1] w fun e w' => e = .returned (.bool true) ∧ Below w.heap.size w w' := by
  obtain ⟨n1, hn1⟩ : ∃ n, l1.length = n := ⟨_, rfl⟩
  rw [hn1] at hbig ⊢
  clear hn1
  have HQ := Aside0.mk hbig
  clear hbig
  go_enter Try.func11, Try.ntmps11
  go_wp2_with (fail)
  refine (anchor_T w).mono ?_
  rintro e w1 ⟨rfl, hb1⟩
  have HB1 := Aside0.mk hb1
  clear hb1
  by_cases q0 : c < 9
  · have d0 : decide (c < 9) = true := decide_eq_true q0
    clear q0
    go_wp2
    go_ret
    exact ⟨rfl, HB1.out⟩
  · have d0 : decide (c < 9) = false := decide_eq_false q0
    by_cases q1 : 5000 < c
    · have d1 : decide (5000 < c) = true := decide_eq_true q1
      clear q0 q1
      go_wp2
      go_ret
      exact ⟨rfl, HB1.out⟩
    · have d1 : decide (5000 < c) = false := decide_eq_false q1
      have d2 : decide (40 < (n1 : Int)) = true := decide_eq_true (by
        have h := HQ.out
        by_cases hn : n1 ≤ 40
        · exact absurd ⟨⟨by omega, by omega⟩, hn⟩ h
        · omega)
      clear q0 q1
      go_wp2
      go_ret
      exact ⟨rfl, HB1.out⟩
def slipwaylaw14_WalPlays.f (_k : Nat) (_c : Int) (l1 : List (Int × List Int × List Int)) : Option Bool := if (l1.all fun o => byteL o.2.1) = true then some true else none
theorem slipwaylaw14_WalPlays.calls (k : Nat) (a0 : Int) (A1 : Option Addr) (c1 : Nat) (l1 : List (Int × List Int × List Int)) (r : Bool) (w : World) (hr1 : Kd.C kPl w A1 l1.length l1) (hc1 : l1.length ≤ c1) (h : slipwaylaw14_WalPlays.f k a0 l1 = some r) :
    Calls Try.prog 11 #[.int .i64 a0, .slice A1 l1.length c1] w fun e w' => e = .returned (.bool r) ∧ Below w.heap.size w w' := by
  unfold slipwaylaw14_WalPlays.f at h
  split at h
  · rename_i hq
    obtain rfl := Option.some.inj h
    by_cases q : (9 ≤ a0 ∧ a0 ≤ 5000) ∧ l1.length ≤ 40
    · exact WalPlays_main a0 l1 A1 c1 w hr1 hc1 (fun o ho => byteL_B (List.all_eq_true.1 hq o ho)) q.1 q.2
    · exact WalPlays_big a0 l1 A1 c1 w q
  · cases h
end Go.Proofs.Ytoimpjmoikjibaa.Wl
namespace Go.Proofs.Ytoimpjmoikjibaa.Pure
open Go Go.Proofs.Ytoimpjmoikjibaa.Wl Go.Proofs.Ytoimpjmoikjibaa.Read
set_option linter.unusedVariables false
theorem WalPlays (a0 : Int) {G0 : Prop} (w0 : G0) (l1 : List (Int × List Int × List Int)) (g1 : goodList (fun x : Int × List Int × List Int => (Lit.int .i64 x.1).wf = true ∧ goodList (fun x => (Lit.int .u8 x).wf = true) x.2.1 ∧ goodList (fun x => (Lit.int .i64 x).wf = true) x.2.2) l1) : ∃ k, slipwaylaw14_WalPlays.f k a0 l1 = some true :=
  ⟨0, if_pos (List.all_eq_true.2 fun o ho => byteL_good (g1.2 o ho).2.1)⟩
end Go.Proofs.Ytoimpjmoikjibaa.Pure
