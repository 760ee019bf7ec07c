/- lattice: the document's From and Circle: what a node reaches, walked. -/
import Derived.Test.YtplhihakeodadaaDoorLtLUp
namespace Go.Proofs.YtplhihakeodadaaDoor.Sg
open Go Go.RowKit Go.Proofs.YtplhihakeodadaaDoorW.PrintWords Go.Proofs.YtplhihakeodadaaDoorW.PrintLast Go.Proofs.YtplhihakeodadaaDoorW.PrintMore
set_option linter.unusedVariables false
set_option linter.unusedSimpArgs false
/-- A node is reached, by one edge or more. -/
inductive Reach (E : List Stp) (a : Nat) : Nat → Prop where
  | one (e : Stp) (he : e ∈ E) (h : e.1.toNat = a) : Reach E a e.2.toNat
  | more (x : Nat) (e : Stp) (hx : Reach E a x) (he : e ∈ E) (h : e.1.toNat = x) : Reach E a e.2.toNat
theorem Reach.step {E : List Stp} {a x : Nat} (h : x = a ∨ Reach E a x) {e : Stp} (he : e ∈ E) (h1 : e.1.toNat = x) : Reach E a e.2.toNat := by
  rcases h with rfl | h
  · exact .one e he h1
  · exact .more x e h he h1
/-- Between two rounds: the nodes in q are to be looked at. -/
structure FI (E : List Stp) (N a : Nat) (q : List Int) (m : List Bool) : Prop where
  len : m.length = N
  sound : ∀ y, m.getD y false = true → Reach E a y
  qs : ∀ x ∈ q, ∃ n : Nat, x = (n : Int) ∧ n < N ∧ (n = a ∨ Reach E a n)
  cl : ∀ z : Nat, (z = a ∨ m.getD z false = true) → (z : Int) ∈ q ∨ ∀ e ∈ E, e.1.toNat = z → m.getD e.2.toNat false = true
/-- Within a round: x is looked at, i edges are gone through. -/
structure FJ (E : List Stp) (N a x i : Nat) (q : List Int) (m : List Bool) : Prop where
  len : m.length = N
  sound : ∀ y, m.getD y false = true → Reach E a y
  qs : ∀ z ∈ q, ∃ n : Nat, z = (n : Int) ∧ n < N ∧ (n = a ∨ Reach E a n)
  rx : x = a ∨ Reach E a x
  cl : ∀ z : Nat, (z = a ∨ m.getD z false = true) → (z : Int) ∈ q ∨ z = x ∨ ∀ e ∈ E, e.1.toNat = z → m.getD e.2.toNat false = true
  tk : ∀ e ∈ E.take i, e.1.toNat = x → m.getD e.2.toNat false = true
theorem FI.start (E : List Stp) (N a : Nat) (ha : a < N) : FI E N a [(a : Int)] (List.replicate N false) where
  len := List.length_replicate
  sound := fun y h => by
    rw [List.getD_eq_getElem?_getD, List.getElem?_replicate] at h
    split at h <;> cases h
  qs := fun x hx => ⟨a, List.mem_singleton.1 hx, ha, .inl rfl⟩
  cl := fun z hz => by
    rcases hz with rfl | h
    · exact .inl (by simp)
    · rw [List.getD_eq_getElem?_getD, List.getElem?_replicate] at h
      split at h <;> cases h
theorem FJ.start {E : List Stp} {N a x : Nat} {q : List Int} {m : List Bool} (h : FI E N a ((x : Int) :: q) m) : FJ E N a x 0 q m where
  len := h.len
  sound := h.sound
  qs := fun z hz => h.qs z (by simp [hz])
  rx := by
    obtain ⟨n, e, _, hn⟩ := h.qs x (by simp)
    have : x = n := by omega
    subst this
    exact hn
  cl := fun z hz => by
    rcases h.cl z hz with h1 | h1
    · rcases List.mem_cons.1 h1 with h2 | h2
      · exact .inr (.inl (by omega))
      · exact .inl h2
    · exact .inr (.inr h1)
  tk := fun e he => by simp at he
theorem FJ.skip {E : List Stp} {N a x i : Nat} {q : List Int} {m : List Bool} (h : FJ E N a x i q m) {e : Stp} (he : E.take (i + 1) = E.take i ++ [e]) (hn : e.1.toNat = x → m.getD e.2.toNat false = true) : FJ E N a x (i + 1) q m where
  len := h.len
  sound := h.sound
  qs := h.qs
  rx := h.rx
  cl := h.cl
  tk := fun e' he' h1 => by
    rw [he] at he'
    rcases List.mem_append.1 he' with h2 | h2
    · exact h.tk e' h2 h1
    · rw [List.mem_singleton.1 h2] at h1 ⊢
      exact hn h1
theorem getD_set {m : List Bool} {y z : Nat} (hy : y < m.length) : (m.set y true).getD z false = (decide (z = y) || m.getD z false) := by
  rw [List.getD_eq_getElem?_getD, List.getD_eq_getElem?_getD, List.getElem?_set]
  by_cases c : y = z
  · subst c
    simp [hy]
  · have c' : ¬ z = y := fun e => c e.symm
    simp [c, c']
theorem FJ.mark {E : List Stp} {N a x i y : Nat} {q : List Int} {m : List Bool} (h : FJ E N a x i q m) {e : Stp} (he : E.take (i + 1) = E.take i ++ [e]) (hm : e ∈ E) (h1 : e.1.toNat = x) (h2 : e.2.toNat = y) (hy : y < N) : FJ E N a x (i + 1) (q ++ [(y : Int)]) (m.set y true) where
  len := by rw [List.length_set]; exact h.len
  sound := fun z hz => by
    rw [getD_set (by rw [h.len]; exact hy), Bool.or_eq_true, decide_eq_true_eq] at hz
    rcases hz with rfl | hz
    · rw [← h2]; exact Reach.step h.rx hm h1
    · exact h.sound z hz
  qs := fun z hz => by
    rcases List.mem_append.1 hz with h3 | h3
    · exact h.qs z h3
    · exact ⟨y, List.mem_singleton.1 h3, hy, .inr (by rw [← h2]; exact Reach.step h.rx hm h1)⟩
  rx := h.rx
  cl := fun z hz => by
    have hz' : (z = a ∨ m.getD z false = true) ∨ z = y := by
      rcases hz with h3 | h3
      · exact .inl (.inl h3)
      · rw [getD_set (by rw [h.len]; exact hy), Bool.or_eq_true, decide_eq_true_eq] at h3
        rcases h3 with h3 | h3
        · exact .inr h3
        · exact .inl (.inr h3)
    rcases hz' with hz' | rfl
    · rcases h.cl z hz' with h3 | h3 | h3
      · exact .inl (List.mem_append_left _ h3)
      · exact .inr (.inl h3)
      · exact .inr (.inr fun e' he' h4 => by rw [getD_set (by rw [h.len]; exact hy), h3 e' he' h4, Bool.or_true])
    · exact .inl (List.mem_append_right _ (by simp))
  tk := fun e' he' h3 => by
    rw [getD_set (by rw [h.len]; exact hy), Bool.or_eq_true, decide_eq_true_eq]
    rw [he] at he'
    rcases List.mem_append.1 he' with h4 | h4
    · exact .inr (h.tk e' h4 h3)
    · rw [List.mem_singleton.1 h4]
      exact .inl h2
theorem FJ.done {E : List Stp} {N a x i : Nat} {q : List Int} {m : List Bool} (h : FJ E N a x i q m) (hi : E.take i = E) : FI E N a q m where
  len := h.len
  sound := h.sound
  qs := h.qs
  cl := fun z hz => by
    rcases h.cl z hz with h1 | rfl | h1
    · exact .inl h1
    · exact .inr fun e he h2 => h.tk e (by rw [hi]; exact he) h2
    · exact .inr h1
theorem FI.reach {E : List Stp} {N a : Nat} {m : List Bool} (h : FI E N a [] m) (y : Nat) : m.getD y false = true ↔ Reach E a y := by
  have hcl : ∀ z : Nat, (z = a ∨ m.getD z false = true) → ∀ e ∈ E, e.1.toNat = z → m.getD e.2.toNat false = true := fun z hz => by
    rcases h.cl z hz with h1 | h1
    · simp at h1
    · exact h1
  refine ⟨h.sound y, fun hr => ?_⟩
  induction hr with
  | one e he h1 => exact hcl _ (.inl rfl) e he h1
  | more x e _ he h1 ih => exact hcl _ (.inr ih) e he h1
theorem count_set : ∀ (m : List Bool) (y : Nat), y < m.length → m.getD y false = false → (m.set y true).count false + 1 = m.count false
  | [], y, h, _ => by simp at h
  | b :: m, 0, _, h => by
    have : b = false := h
    subst this
    simp
  | b :: m, y + 1, h, h1 => by
    have := count_set m y (by simpa using h) h1
    simp only [List.set_cons_succ, List.count_cons]
    omega
theorem info_bool : (Tryd.prog.info? 4).map (fun i => (i.zero, i.size, i.bytes)) = some (some (.bool false), 1, 1) := by kernel_rfl
set_option maxHeartbeats 8000000 in
set_option maxRecDepth 100000 in
theorem From_T (N : Nat) (E : List Stp) (A : Option Addr) (c a : Nat) (w : World) (ha : a < N) (h : Kd.C kP w A E.length E) (hR : rightG (N : Int) E = true) (hE6 : E.length ≤ 1000000) :
    Calls Tryd.prog 54 #[.agg #[.int .i64 (N : Int), .slice A E.length c], .int .i64 (a : Int)] w fun e w' => ∃ g c' m, e = .returned (.slice (some ⟨g, 0, none⟩) N c') ∧ Kd.R Kd.bool 4 w' w.heap.size (fun _ => True) (.slice (some ⟨g, 0, none⟩) N c') m ∧ m.length = N ∧ (∀ y, m.getD y false = true ↔ Reach E a y) ∧ Below w.heap.size w w' := by
  obtain ⟨hE64, ⟨_, hN64⟩, _, hEN⟩ := rightG_in hR
  have HC := Aside0.mk h
  have HEN := Aside0.mk hEN
  have HN : Aside0 (N ≤ 64) := ⟨by omega⟩
  have HL := Aside0.mk hE6
  have HA := Aside0.mk ha
  have hb0 := below_alloc (Below.refl w.heap.size w) (.cells #[.int .i64 (N : Int), .slice A E.length c] 55)
  have HB0 := Aside0.mk hb0
  have HG0 := Aside0.mk (heap_last w (.cells #[.int .i64 (N : Int), .slice A E.length c] 55))
  have hg0 := (blk_cell HG0.out) 0
  clear h hR hE64 hN64 hEN hE6 ha hb0
  go_enter Tryd.func54, Tryd.ntmps54
  go_wp2_with (first | ((with_reducible refine gate_dst (N := 12) rfl ?_); refine Kd.R_make Kd.bool (w0 := w) w.heap.size 4 rfl (N := 12) rfl 97 (.tmp 11) (.tmp 11) rfl (N : Int) rfl rfl Tryd.underlying97 (.bool false) 1 info_bool rfl (by decide) (by decide) false (ok := fun k => k = w.heap.size + 1) (okp := fun k => k = w.heap.size + 1) rfl (fun _ h => h) (by rw [World.size_alloc]) (by omega) (by have := HN.out; omega) HB0.out (below_size HB0.out) ?_; intro v1 w1 ho hb hg hat; refine Halt.out ?_))
  unfold Halt
  obtain ⟨A5, c5, rfl⟩ := Kd.R_slice ho
  obtain ⟨bo, hbo⟩ : ∃ b, w.heap.size + 1 = b := ⟨_, rfl⟩
  rw [hbo] at ho
  have hA5 : A5 = some ⟨bo, 0, none⟩ := by
    obtain ⟨inner, hz, hx⟩ := Kd.R_own ho
    rcases hx with ⟨hv, hn⟩ | ⟨g, cap, cur, hv, _⟩
    · rw [List.length_replicate] at hn
      have := HA.out
      omega
    · injection hv with h1
      have h2 := ho.1 g (by rw [h1]; simp [Value.ownBlock])
      rw [h1, h2]
  subst hA5
  have hlen : (List.replicate (N : Int).toNat false).length = N := by rw [List.length_replicate, Int.toNat_natCast]
  rw [hlen] at ho ⊢
  rw [Int.toNat_natCast] at ho
  have HO := Aside0.mk ho
  have HB1 := Aside0.mk hb
  have HG1 := Aside0.mk (blk_grown HG0.out hg (by simp))
  have HLT : Aside0 (bo < w1.heap.size) := ⟨by
    have h1 := hg.size
    obtain ⟨inner, hz, hx⟩ := Kd.R_own ho
    rcases hx with ⟨hv, hn⟩ | ⟨g, cap, cur, hv, _, hh, _⟩
    · injection hv with h1
      cases h1
    · have e : bo = g := by
        injection hv with h1
        injection h1 with h1
        injection h1
      rw [e]
      exact (Array.getElem?_eq_some_iff.1 hh).1⟩
  have HWB : Aside0 (w.heap.size < bo) := ⟨by omega⟩
  clear ho hb hg hat hg0 hlen hbo
  go_wp2_with (first | ((with_reducible refine gate_dst (N := 14) rfl ?_); refine Kd.R_lit kI (w0 := w) w.heap.size 3 ?hg (N := 14) ?hd (xs := [(a : Int)]) (inner := [.int .i64 (a : Int)]) (ok := fun k => bo < k) (okp := fun k => bo < k) ?hr ?hp (fun _ hk => hk) HLT.out HB1.out (below_size HB1.out) (by simp) ?_; (case hd => rfl); (case hg => rfl); (case hr => first | (go_simp; done) | (go_simp; rfl)); (case hp => exact (Reps.one (show Kd.M kI _ _ _ (a : Int) [.int .i64 (a : Int)] from rfl) (Reps.none _ _))); intro v6 w2 ho2 hb2 hg2 hnew2; refine Halt.out ?_))
  unfold Halt
  obtain ⟨A6, c6, rfl⟩ := Kd.R_slice ho2
  have HQ := Aside0.mk (Kd.Q_of_R ho2)
  have HB2 := Aside0.mk hb2
  have HG2 := Aside0.mk (blk_grown HG1.out hg2 (by simp))
  have HO2 := Aside0.mk (Kd.R_grown HO.out hg2 (fun k _ => by simp))
  clear ho2 hb2 hg2 hnew2 HO HB1 HG1 HLT HB0 HG0
  go_wp2
  go_loopg [6, 7, 8, 9] (N + 1) (fun kq v6 v7 v8 v9 w' => ∃ (q : List Int) (m : List Bool) (A6 : Option Addr) (c6 : Nat), v6 = .slice A6 q.length c6 ∧ Aside0 (q.length + m.count false ≤ kq ∧ q.length + m.count false ≤ N + 1) ∧ Aside0 (FI E N a q m) ∧ Aside0 (Kd.Q kI 3 w' w.heap.size (fun k => bo < k) v6 q) ∧ Aside0 (Kd.R Kd.bool 4 w' w.heap.size (fun k => k = bo) (.slice (some ⟨bo, 0, none⟩) N c5) m) ∧ Aside0 (w'.heap[w.heap.size]? = some (.cells #[.int .i64 (N : Int), .slice A E.length c] 55 (0, 0))) ∧ Aside0 (Below w.heap.size w w'))
  case atStart => exact ⟨[(a : Int)], List.replicate N false, A6, c6, rfl, ⟨by simp only [List.length_singleton, List.count_replicate_self]; omega⟩, ⟨FI.start E N a HA.out⟩, HQ, HO2, HG2, HB2⟩
  case round =>
    clear HQ HO2 HG2 HB2
    obtain ⟨q, m, A6, c6, rfl, HK, HF, HQ, HO, HG, HB⟩ := hrel
    cases q with
    | nil =>
      go_wp2
      go_ret
      exact ⟨bo, c5, m, rfl, Kd.R_mono HO.out (fun _ _ => trivial), HF.out.len, HF.out.reach, HB.out⟩
    | cons x q =>
      obtain ⟨xn, rfl, hxN, hxr⟩ := HF.out.qs x (by simp)
      have hC := (Kd.Q_reads' HQ.out).2.2
      obtain ⟨ad, ea, hx⟩ := at_int hC 0 (by simp)
      cases ea
      have hx' : wr.cell? (ad.add 0) = some (.int .i64 (xn : Int)) := hx
      simp [Addr.add] at hx'
      clear hx hC
      obtain ⟨z, hz⟩ : ∃ z, (((xn : Int) :: q).length) = z := ⟨_, rfl⟩
      have HZ : Aside0 (z = q.length + 1) := ⟨by rw [← hz]; rfl⟩
      rw [hz] at HQ ⊢
      clear hz
      have e1 : decide (0 < z) = true := decide_eq_true (by have := HZ.out; omega)
      have e2 : (0 : Int) < (z : Int) := by have := HZ.out; omega
      obtain ⟨i0, hi0, hi1⟩ := Option.map_eq_some_iff.1 info_int
      have hsz : i0.size = 1 := by simp only [Prod.mk.injEq] at hi1; exact hi1.2.1
      have hcut := cut_from (P := Tryd.prog) 22 3 .i64 Tryd.underlying22 hi0 1 hsz (some ad) z c6 1 (by omega) (by omega)
      have hQ1 := Kd.Q_drop (k := 1) HQ.out (by simp)
      rw [List.drop_one, List.tail_cons] at hQ1
      rw [show (1 : Int).toNat = 1 from rfl] at hcut
      obtain ⟨A7, hA7⟩ : ∃ A', (if c6 = 1 then some ad else (some ad).map (·.add (1 * kI.sz))) = A' := ⟨_, rfl⟩
      have hA7' : (if c6 = 1 then some ad else (some ad).map (·.add (1 * 1))) = A7 := hA7
      rw [hA7] at hQ1
      rw [hA7'] at hcut
      obtain ⟨c7, hc7⟩ : ∃ c', c6 - 1 = c' := ⟨_, rfl⟩
      rw [hc7] at hQ1 hcut
      have hz1 : z - 1 = q.length := by have := HZ.out; omega
      rw [hz1] at hQ1 hcut
      have HQ1 := Aside0.mk hQ1
      clear hA7 hA7' hc7 hz1 hQ1 hsz hi0 hi1
      have HX0 := Aside0.mk (FJ.start HF.out)
      have HKQ : Aside0 (q.length + m.count false + 1 ≤ gk ∧ q.length + m.count false + 1 ≤ N + 1) := ⟨by have := HK.out; simp only [List.length_cons] at this; omega⟩
      have HXN := Aside0.mk hxN
      clear hxN hxr
      go_wp2
      clear hcut e1 e2 hx'
      go_loopg [6, 8, 9] E.length (fun kq v6 v8 v9 w' => ∃ (i : Nat) (q2 : List Int) (m2 : List Bool) (A6 : Option Addr) (c6 : Nat), v6 = .slice A6 q2.length c6 ∧ v8 = .int .i64 (i : Int) ∧ Aside0 (i + kq = E.length) ∧ Aside0 (q2.length + m2.count false = q.length + m.count false) ∧ Aside0 (FJ E N a xn i q2 m2) ∧ Aside0 (Kd.Q kI 3 w' w.heap.size (fun k => bo < k) v6 q2) ∧ Aside0 (Kd.R Kd.bool 4 w' w.heap.size (fun k => k = bo) (.slice (some ⟨bo, 0, none⟩) N c5) m2) ∧ Aside0 (w'.heap[w.heap.size]? = some (.cells #[.int .i64 (N : Int), .slice A E.length c] 55 (0, 0))) ∧ Aside0 (Below w.heap.size w w'))
      case atStart => exact ⟨0, q, m, A7, c7, rfl, rfl, ⟨by omega⟩, ⟨rfl⟩, HX0, HQ1, HO, HG, HB⟩
      case round =>
        rename_i J0 K0 hJ0 hK0
        clear HX0 HQ1 HQ HO HG HB HF HK
        obtain ⟨i, q2, m2, A8, c8, rfl, rfl, HJ, HC2, HF, HQ, HO, HG, HB⟩ := hrel
        have hg1 := (blk_cell HG.out) 1
        by_cases c1 : i < E.length
        · have e1 : decide (i < E.length) = true := decide_eq_true c1
          have HE5 : Aside0 (wrap64 ((i : Int) + 1) = ((i + 1 : Nat) : Int)) := ⟨by have := HL.out; unfold wrap64; omega⟩
          obtain ⟨ad2, ea, hx, hy⟩ := at_stp HC.out i c1
          cases ea
          replace hx := pw_cell_below HB.out hx
          replace hy := pw_cell_below HB.out hy
          obtain ⟨e, he⟩ : ∃ e, E.getD i (0, 0) = e := ⟨_, rfl⟩
          have hm : e ∈ E := by rw [← he]; exact getD_mem c1 _
          have htk : E.take (i + 1) = E.take i ++ [e] := by rw [take_snoc' c1 (0, 0), he]
          obtain ⟨⟨p1, p2⟩, ⟨p3, p4⟩⟩ := HEN.out e hm
          rw [he] at hx hy
          obtain ⟨p, y⟩ := e
          obtain ⟨p, rfl⟩ := Int.eq_ofNat_of_zero_le p1
          obtain ⟨y, rfl⟩ := Int.eq_ofNat_of_zero_le p3
          dsimp only at p2 p4 hx hy
          have hyN : y < N := by omega
          have HTK := Aside0.mk htk
          have HM := Aside0.mk hm
          have HI := Aside0.mk c1
          obtain ⟨z2, hz2⟩ : ∃ z, q2.length = z := ⟨_, rfl⟩
          rw [hz2] at HQ HC2 ⊢
          have HZ2 := Aside0.mk hz2
          by_cases cp : p = xn
          · have e2 : ((p : Int) == (xn : Int)) = true := by rw [cp]; simp
            have hcell := Kd.R_cell false (by rw [HF.out.len]; exact HO.out) (y : Int) (by omega) (by rw [HF.out.len]; omega)
            rw [Int.toNat_natCast, show rdOf false m2 (y : Int) = m2.getD y false from rfl] at hcell
            obtain ⟨hu, huf⟩ := hcell
            have HYN := Aside0.mk hyN
            obtain ⟨my, hmy⟩ : ∃ b, m2.getD y false = b := ⟨_, rfl⟩
            rw [hmy] at hu
            have hyb : (y : Int) < (N : Int) := by omega
            have HMY := Aside0.mk hmy
            have HCP := Aside0.mk cp
            clear he hm htk p1 p2 p3 p4 hmy hz2 cp
            cases my with
            | true =>
              have HJN := Aside0.mk (HF.out.skip HTK.out (fun _ => HMY.out))
              go_wp2
              go_roundg (gk - 1)
              case measure => have := HJ.out; have := HI.out; omega
              case rel => exact ⟨i + 1, q2, m2, A8, c8, by rw [HZ2.out], (by first | exact congrArg _ HE5.out | rfl), ⟨by have := HJ.out; have := HI.out; omega⟩, ⟨by rw [HZ2.out]; exact HC2.out⟩, HJN, HQ, HO, HG, HB⟩
            | false =>
              have HJN := Aside0.mk (HF.out.mark (y := y) HTK.out HM.out (by rw [← HCP.out]; rfl) rfl hyN)
              have HCT := Aside0.mk (count_set m2 y (by rw [HF.out.len]; exact HYN.out) HMY.out)
              obtain ⟨r1, r2⟩ := Kd.R_putg HO.out (y : Int) true
              rw [Int.toNat_natCast] at r1 r2
              have HR3 := Aside0.mk r1
              have HQ3 := Aside0.mk (Kd.Q_far (p := ⟨bo, y, none⟩) HQ.out (fun k hk => Nat.ne_of_gt hk) (.bool true))
              have HB3 := Aside0.mk (HB.out.setCell (p := ⟨bo, y, none⟩) (Nat.le_of_lt HWB.out) (.bool true))
              have HG3 := Aside0.mk (blk_far HG.out (p := ⟨bo, y, none⟩) (Nat.ne_of_lt HWB.out) (.bool true))
              go_upto_region 12 with (fail)
              obtain ⟨w3, hw3⟩ : ∃ W, wr.setCell ⟨bo, y, none⟩ (.bool true) = W := ⟨_, rfl⟩
              rw [hw3] at HR3 HQ3 HB3 HG3 ⊢
              have HLT3 : Aside0 (bo < w3.heap.size) := ⟨by
                obtain ⟨inner, hz, hx⟩ := Kd.R_own HR3.out
                rcases hx with ⟨hv, hn⟩ | ⟨g, cap, cur, hv, _, hh, _⟩
                · injection hv with h1
                  cases h1
                · have e : bo = g := by
                    injection hv with h1
                    injection h1 with h1
                    injection h1
                  rw [e]
                  exact (Array.getElem?_eq_some_iff.1 hh).1⟩
              have HLQ : Aside0 ((q2.length + 1) * 8 ≤ 140737488355328) := ⟨by
                have h1 := HC2.out
                have h2 := HKQ.out
                have h4 := HN.out
                have h5 := HZ2.out
                omega⟩
              clear hw3 hu huf hx hy hg1 r1 r2 e2 hyb HO HQ HG HB
              go_wp2_with (first | ((with_reducible refine gate_builtin (b := .append) (xs := #[.tmp 54, .tmp 56]) rfl ?_); at_builtin; go_loud (refine Kd.Q_append kI (w0 := w) w.heap.size rfl (.tmp 54) (.tmp 56) 22 3 (.int .i64 0) 8 rfl Tryd.underlying22 info_int rfl (by decide) (by decide) (.slice A8 z2 c8) q2 (y : Int) [.int .i64 (y : Int)] (fun k => bo < k) (fun k => bo < k ∧ some k ≠ (Value.slice A8 z2 c8).ownBlock) rfl rfl rfl (fun _ hk => hk) (fun k hk => Nat.lt_of_lt_of_le HLT3.out hk) HQ3.out HB3.out (below_size HB3.out) HLQ.out ?_); intro v1 w5 ho hbl hg hat; refine Halt.out ?_))
              unfold Halt
              obtain ⟨A9, c9, rfl, _⟩ := Kd.Q_slice ho
              have HQ5 := Aside0.mk ho
              have HB5 := Aside0.mk hbl
              have HR5 := Aside0.mk (Kd.R_grown HR3.out hg (fun k hk e => by
                have h1 := HQ3.out.1 k e.symm
                omega))
              have HG5 := Aside0.mk (blk_grown HG3.out hg (fun e => by
                have h1 := HQ3.out.1 _ e.symm
                have h2 := HWB.out
                omega))
              clear ho hbl hg hat
              go_wp2
              go_roundg (gk - 1)
              case measure => have := HJ.out; have := HI.out; omega
              case rel => exact ⟨i + 1, q2 ++ [(y : Int)], m2.set y true, A9, c9, rfl, (by first | exact congrArg _ HE5.out | rfl), ⟨by have := HJ.out; have := HI.out; omega⟩, ⟨by have h1 := HC2.out; have h2 := HCT.out; have h3 := HZ2.out; simp only [List.length_append, List.length_singleton]; omega⟩, HJN, HQ5, HR5, HG5, HB5⟩
          · have e2 : ((p : Int) == (xn : Int)) = false := by rw [beq_eq_false_iff_ne]; omega
            have HJN := Aside0.mk (HF.out.skip HTK.out (fun h => absurd (show p = xn from h) cp))
            clear he hm htk p1 p2 p3 p4 hz2 cp
            go_wp2
            go_roundg (gk - 1)
            case measure => have := HJ.out; have := HI.out; omega
            case rel => exact ⟨i + 1, q2, m2, A8, c8, by rw [HZ2.out], (by first | exact congrArg _ HE5.out | rfl), ⟨by have := HJ.out; have := HI.out; omega⟩, ⟨by rw [HZ2.out]; exact HC2.out⟩, HJN, HQ, HO, HG, HB⟩
        · have e1 : decide (i < E.length) = false := decide_eq_false c1
          have HFN := Aside0.mk (HF.out.done (List.take_of_length_le (by omega)))
          clear c1
          go_wp2
          go_roundg (q.length + m.count false)
          case measure => have := HKQ.out; omega
          case rel => exact ⟨q2, m2, A8, c8, rfl, ⟨by have := HKQ.out; have := HC2.out; omega⟩, HFN, HQ, HO, HG, HB⟩
/-- A circle. -/
def Circ (E : List Stp) (N : Nat) : Prop := ∃ a, a < N ∧ Reach E a a
set_option maxHeartbeats 8000000 in
set_option maxRecDepth 100000 in
theorem Circle_T (N : Nat) (E : List Stp) (A : Option Addr) (c : Nat) (w : World) (h : Kd.C kP w A E.length E) (hR : rightG (N : Int) E = true) (hE6 : E.length ≤ 1000000) :
    Calls Tryd.prog 35 #[.agg #[.int .i64 (N : Int), .slice A E.length c]] w fun e w' => ∃ b, e = .returned (.bool b) ∧ (b = true ↔ Circ E N) ∧ Below w.heap.size w w' := by
  have hN64 := (rightG_in hR).2.1.2
  have HN : Aside0 (N ≤ 64) := ⟨by omega⟩
  have K := Aside0.mk (fun (W : World) (a : Nat) (ha : a < N) (hb : Below w.heap.size w W) => From_T N E A c a W ha (Kd.C_below h hb) hR hE6)
  have HB0 := Aside0.mk (below_alloc (Below.refl w.heap.size w) (.cells #[.int .i64 (N : Int), .slice A E.length c] 55))
  have HG0 := Aside0.mk (heap_last w (.cells #[.int .i64 (N : Int), .slice A E.length c] 55))
  clear h hR hN64
  go_enter Tryd.func35, Tryd.ntmps35
  go_wp2
  go_loopg [3] N (fun kq v3 w' => ∃ (i : Nat), v3 = .int .i64 (i : Int) ∧ Aside0 (i + kq = N) ∧ Aside0 (∀ a, a < i → ¬ Reach E a a) ∧ Aside0 (w'.heap[w.heap.size]? = some (.cells #[.int .i64 (N : Int), .slice A E.length c] 55 (0, 0))) ∧ Aside0 (Below w.heap.size w w'))
  case atStart => exact ⟨0, rfl, ⟨by omega⟩, ⟨fun a ha => absurd ha (Nat.not_lt_zero a)⟩, HG0, HB0⟩
  case round =>
    clear HG0 HB0
    obtain ⟨i, rfl, HJ, HA, HG, HB⟩ := hrel
    have hg0 := (blk_cell HG.out) 0
    have hg1 := (blk_cell HG.out) 1
    by_cases c1 : i < N
    · have e1 : decide (i < N) = true := decide_eq_true c1
      have HE5 : Aside0 (wrap64 ((i : Int) + 1) = ((i + 1 : Nat) : Int)) := ⟨by have := HN.out; unfold wrap64; omega⟩
      have K1 := Aside0.mk (K.out wr i c1 HB.out)
      have HI := Aside0.mk c1
      go_wp2_with (fail)
      refine K1.out.mono ?_
      rintro e w1 ⟨g, c', m, rfl, hr, hl, hm, hb⟩
      have HB1 := Aside0.mk (below_step HB.out hb)
      have HG1 := Aside0.mk (blk_below HG.out hb)
      have hcell := Kd.R_cell false (by rw [hl]; exact hr) (i : Int) (by omega) (by rw [hl]; omega)
      rw [Int.toNat_natCast, show rdOf false m (i : Int) = m.getD i false from rfl] at hcell
      obtain ⟨hu, _⟩ := hcell
      have HMM := Aside0.mk (hm i)
      obtain ⟨b, hbb⟩ : ∃ b, m.getD i false = b := ⟨_, rfl⟩
      rw [hbb] at hu HMM
      have hin : (i : Int) < (N : Int) := by omega
      clear K1 hr hl hm hb hbb hg0 hg1 HB HG
      cases b with
      | true =>
        go_wp2
        go_ret
        exact ⟨true, rfl, ⟨fun _ => ⟨i, HI.out, HMM.out.1 (by trivial)⟩, fun _ => rfl⟩, HB1.out⟩
      | false =>
        have HN2 : Aside0 (¬ Reach E i i) := ⟨fun h => by have := HMM.out.2 h; cases this⟩
        go_wp2
        go_roundg (gk - 1)
        case measure => have := HJ.out; have := HI.out; omega
        case rel => exact ⟨i + 1, (by first | exact congrArg _ HE5.out | rfl), ⟨by have := HJ.out; have := HI.out; omega⟩, ⟨fun a ha => by
          rcases Nat.lt_or_ge a i with h | h
          · exact HA.out a h
          · rw [show a = i by omega]; exact HN2.out⟩, HG1, HB1⟩
    · have e1 : decide (i < N) = false := decide_eq_false c1
      have HI := Aside0.mk c1
      go_wp2
      go_ret
      exact ⟨false, rfl, ⟨fun h => (by cases h), fun ⟨a, ha, hr⟩ => absurd hr (HA.out a (by have := HI.out; omega))⟩, HB.out⟩
end Go.Proofs.YtplhihakeodadaaDoor.Sg
