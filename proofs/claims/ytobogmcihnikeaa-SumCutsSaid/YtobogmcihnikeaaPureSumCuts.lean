import Derived.Test.YtobogmcihnikeaaRefOpen
import Derived.Test.YtobogmcihnikeaaPx18
namespace Go.Proofs.Ytobogmcihnikeaa.Pure
open Go.RowKit Go.Proofs.Ytobogmcihnikeaa.P Go.Proofs.Ytobogmcihnikeaa.Crc Go.Proofs.Ytobogmcihnikeaa.Read Go.Proofs.YtobogmcihnikeaaW.PrintWords Go.Proofs.YtobogmcihnikeaaW.PrintLast Go.Proofs.YtobogmcihnikeaaW.PrintMore

def frames (ps : List (List Int)) : List Int := (ps.map frame).flatten
theorem frames_cons (p : List Int) (ps : List (List Int)) : frames (p :: ps) = frame p ++ frames ps := rfl
theorem frames_snoc (p : List Int) (ps : List (List Int)) : frames (ps ++ [p]) = frames ps ++ frame p := by
  unfold frames
  rw [List.map_append, List.flatten_append]
  simp
theorem frames_B {ps : List (List Int)} (h : ∀ p ∈ ps, B p) : B (frames ps) := fun x hx => by
  obtain ⟨f, hf, hxf⟩ := List.mem_flatten.1 hx
  obtain ⟨p, hp, rfl⟩ := List.mem_map.1 hf
  exact frame_B (h p hp) x hxf
theorem frames_len (ps : List (List Int)) (h : ∀ p ∈ ps, p.length ≤ 200) : (frames ps).length ≤ 208 * ps.length ∧ ps.length ≤ (frames ps).length := by
  induction ps with
  | nil => exact ⟨Nat.le_refl _, Nat.le_refl _⟩
  | cons p ps ih =>
    have h1 := ih fun q hq => h q (by simp [hq])
    have h2 := h p (by simp)
    rw [frames_cons, List.length_append, frame_len, List.length_cons]
    omega
theorem opened_cut (p : List Int) (hn : p.length ≤ 65536) (j : Nat) (hj : j < p.length + 8) : (opened ((frame p).take j)).2.2 ≠ 0 := by
  have hl : ((frame p).take j).length = j := by rw [List.length_take, frame_len]; omega
  unfold opened
  rw [hl]
  by_cases c : j < 4
  · rw [if_pos c]; decide
  · have h4 : num4 ((frame p).take j) = p.length := by
      rw [num4_take j (by omega)]
      exact num4_four _ (by omega) _
    rw [if_neg c, h4, if_neg (by omega), if_pos hj]
    decide
theorem split_frames (r : List Int) (hr : B r) (hr0 : (opened r).2.2 ≠ 0) (ps : List (List Int)) : ∀ (pre : List Int) (out : List (List Int)), (∀ p ∈ ps, B p ∧ p.length ≤ 200) → out.length + ps.length ≤ 1000 → pre.length + (frames ps).length + r.length ≤ 1000000 →
    Ev (fun k => sum_Split.l0 k (pre ++ (frames ps ++ r)) out (pre.length : Int)) (out ++ ps, ((pre.length + (frames ps).length : Nat) : Int)) := by
  induction ps with
  | nil =>
    intro pre out _ ho hs
    refine Ev_succ ?_
    simp only [sum_Split.l0, Int.toNat_natCast]
    have e : (pre ++ (frames [] ++ r)).drop pre.length = r := List.drop_left' rfl
    rw [e]
    refine Ev_pos (by omega) (Ev_pos (by simp; omega) (Ev.bind (Open_ev r hr (by omega)) (Ev_neg hr0 ?_)))
    rw [List.append_nil]
    exact Ev.now _
  | cons p ps ih =>
    intro pre out hp ho hs
    obtain ⟨hB, hn⟩ := hp p (by simp)
    have hF := frame_len p
    rw [frames_cons, List.length_append, hF] at hs
    have e : (pre ++ (frames (p :: ps) ++ r)).drop pre.length = frame p ++ (frames ps ++ r) := by
      rw [List.drop_left' rfl, frames_cons, List.append_assoc]
    have hBs : B (frames ps) := frames_B fun q hq => (hp q (by simp [hq])).1
    have hO := Open_ev (frame p ++ (frames ps ++ r)) (B_append (frame_B hB) (B_append hBs hr)) (by rw [List.length_append, List.length_append, hF]; omega)
    rw [opened_frame p _ hB (by omega)] at hO
    have h := ih (pre ++ frame p) (out ++ [p]) (fun q hq => hp q (by simp [hq])) (by simp at ho ⊢; omega) (by rw [List.length_append, hF]; omega)
    rw [List.length_append, hF, List.append_assoc, List.append_assoc, ← List.append_assoc (frame p), ← frames_cons, show [p] ++ ps = p :: ps from rfl] at h
    refine Ev_succ ?_
    simp only [sum_Split.l0, Int.toNat_natCast]
    rw [e]
    have hw : wrap64 ((pre.length : Int) + ((p.length + 8 : Nat) : Int)) = ((pre.length + (p.length + 8) : Nat) : Int) := by unfold wrap64; omega
    refine Ev_pos (by omega) (Ev_pos (by simp; omega) (Ev.bind hO (Ev_pos rfl (Ev_pos (by simp at ho; omega) ?_))))
    simp only [hw]
    refine Ev_pos (by omega) ?_
    rw [Nat.add_assoc pre.length] at h
    rw [show (frames (p :: ps)).length = p.length + 8 + (frames ps).length by rw [frames_cons, List.length_append, hF]]
    exact h
theorem cuts_same (ls m : List (List Int)) (hr : ls.length ≤ 20) (hx : ∀ x ∈ ls, x.length ≤ 200) (n : Nat) (hn : ls.length = n + 1) (hm : m = ls.take n) (d : Nat) : ∀ i : Nat, i + d = ls.length → Ev (fun k => slipwaylaw11_SumCuts.l1 k ls (n : Int) m ls (ls.length : Int) (i : Int)) true := by
  induction d with
  | zero =>
    intro i hi
    exact Ev.step (f := fun _ => some true) (fun k => by rw [slipwaylaw11_SumCuts.l1, if_neg (by omega)]) (Ev.now _)
  | succ d ih =>
    intro i hi
    have hlt : i < ls.length := by omega
    have hl := hx _ (List.getElem_mem hlt)
    have hnx : wrap64 ((i : Int) + 1) = ((i + 1 : Nat) : Int) := by unfold wrap64; omega
    refine Ev_succ ?_
    simp only [slipwaylaw11_SumCuts.l1, rdL hlt, hnx]
    refine Ev_pos (by omega) (Ev_pos (by omega) (Ev_pos (by omega) (Ev_pos (by omega) (Ev.bind (Same_self _ (by omega)) (Ev_pos rfl ?_)))))
    by_cases c : i < n
    · have hlm : i < m.length := by rw [hm, List.length_take]; omega
      have e : m[i] = ls[i] := by subst hm; exact List.getElem_take
      rw [rdL hlm, e]
      exact Ev_pos (by omega) (Ev_pos (by omega) (Ev.bind (Same_self _ (by omega)) (Ev_pos rfl (ih (i + 1) (by omega)))))
    · exact Ev_neg (by omega) (ih (i + 1) (by omega))
theorem cut_sz (F G L R : Nat) {m : Nat} (h : F = G + (L + 8)) (hF : F ≤ 208 * m) (hm : m ≤ 20) (hR : R ≤ L + 8) : ([] : List Int).length + G + R ≤ 1000000 := by
  rw [List.length_nil]
  omega
theorem cut_w5 (F c : Nat) (h : c + 1 ≤ F) (hF : F ≤ 208 * 20) : wrap64 ((F : Int) - ((c + 1 : Nat) : Int)) = ((F - (c + 1) : Nat) : Int) := by
  rw [w64 (by omega) (by omega)]
  omega
theorem cut_w6 (F G L : Nat) (h : F = G + (L + 8)) (hF : F ≤ 208 * 20) : wrap64 (wrap64 ((F : Int) - 8) - (L : Int)) = (G : Int) := by
  rw [w64 (x := (F : Int) - 8) (by omega) (by omega), w64 (by omega) (by omega)]
  omega
theorem take_cut (A F : List Int) (c L : Nat) (hF : F.length = L + 8) (hc : c < L + 8) : (A ++ F).take ((A ++ F).length - (c + 1)) = A ++ F.take (L + 8 - (c + 1)) := by
  rw [List.length_append, hF, List.take_append, List.take_of_length_le (by omega)]
  congr 2
  omega
theorem cuts_end (ls : List (List Int)) (hB : ∀ l ∈ ls, B l) (hx : ∀ l ∈ ls, l.length ≤ 200) (hr : ls.length ≤ 20) (h1 : 1 ≤ ls.length) (a : Nat) (ha : a < 9223372036854775808) :
    Ev (fun k => slipwaylaw11_SumCuts.l0 k ls (a : Int) (frames ls) ls (ls.length : Int) (ls.length : Int)) true := by
  obtain ⟨n, hn⟩ : ∃ n, ls.length = n + 1 := ⟨ls.length - 1, by omega⟩
  have hlt : n < ls.length := by omega
  have hsplit : ls = ls.take n ++ [ls[n]] := by
    conv => lhs; rw [← List.take_append_drop n ls, List.drop_eq_getElem_cons hlt, List.drop_of_length_le (by omega)]
  have hL := hx _ (List.getElem_mem hlt)
  have hBL := hB _ (List.getElem_mem hlt)
  have hfl := frames_len ls hx
  have hf : frames ls = frames (ls.take n) ++ frame ls[n] := by
    conv => lhs; rw [hsplit, frames_snoc]
  have hfl1 : (frames ls).length = (frames (ls.take n)).length + ((ls[n]).length + 8) := by rw [hf, List.length_append, frame_len]
  have w1 : wrap64 ((ls.length : Int) - 1) = (n : Int) := by unfold wrap64; omega
  have w2 : wrap64 (((ls[n]).length : Int) + 8) = (((ls[n]).length + 8 : Nat) : Int) := by unfold wrap64; omega
  have w3 : Int.tmod (a : Int) (((ls[n]).length + 8 : Nat) : Int) = ((a % ((ls[n]).length + 8) : Nat) : Int) := by
    rw [Int.tmod_eq_emod_of_nonneg (by omega)]
    omega
  have hc : a % ((ls[n]).length + 8) < (ls[n]).length + 8 := Nat.mod_lt _ (by omega)
  generalize a % ((ls[n]).length + 8) = c at w3 hc
  have w4 : wrap64 (1 + (c : Int)) = ((c + 1 : Nat) : Int) := by unfold wrap64; omega
  have w5 : wrap64 (((frames ls).length : Int) - ((c + 1 : Nat) : Int)) = (((frames ls).length - (c + 1) : Nat) : Int) := cut_w5 _ _ (by rw [hfl1]; exact Nat.le_trans hc (Nat.le_add_left _ _)) (Nat.le_trans hfl.1 (Nat.mul_le_mul_left 208 hr))
  have w6 : wrap64 (wrap64 (((frames ls).length : Int) - 8) - ((ls[n]).length : Int)) = (((frames (ls.take n)).length : Nat) : Int) := cut_w6 _ _ _ hfl1 (Nat.le_trans hfl.1 (Nat.mul_le_mul_left 208 hr))
  have hs1 := split_frames [] B_nil (by rw [show opened [] = ([], 0, 13) from rfl]; decide) ls [] [] (fun p hp => ⟨hB p hp, hx p hp⟩) (by simp; omega) (by simp; omega)
  simp only [List.nil_append, List.append_nil, List.length_nil, Nat.zero_add] at hs1
  have hcut : (frames ls).take ((frames ls).length - (c + 1)) = frames (ls.take n) ++ (frame ls[n]).take ((ls[n]).length + 8 - (c + 1)) := by
    have h := take_cut (frames (ls.take n)) (frame ls[n]) c (ls[n]).length (frame_len _) hc
    rwa [← hf] at h
  have hs2 := split_frames ((frame ls[n]).take ((ls[n]).length + 8 - (c + 1))) (B_take (frame_B hBL) _) (opened_cut _ (Nat.le_trans hL (by decide)) _ (Nat.sub_lt (Nat.succ_pos _) (Nat.succ_pos _))) (ls.take n) [] [] (fun p hp => ⟨hB p (List.mem_of_mem_take hp), hx p (List.mem_of_mem_take hp)⟩) (by rw [List.length_take]; exact Nat.le_trans (Nat.add_le_add (Nat.le_refl _) (Nat.le_trans (Nat.min_le_right _ _) hr)) (by decide)) (cut_sz _ _ _ _ hfl1 hfl.1 hr (by rw [List.length_take, frame_len]; exact Nat.min_le_right _ _))
  simp only [List.nil_append, List.length_nil, Nat.zero_add] at hs2
  refine Ev_succ ?_
  simp only [slipwaylaw11_SumCuts.l0, w1, rdL hlt, w2, w3, w4, w5, w6, Int.toNat_natCast, hcut]
  clear w1 w2 w3 w4 w5 w6 hcut hsplit hf ha
  refine Ev_neg (by omega) (Ev.bind hs1 (Ev_pos (by omega) (Ev_pos (by omega) (Ev_neg (by omega) (Ev_neg (by omega) (Ev_pos (by omega) (Ev_pos (by omega) (Ev.bind hs2 (Ev_pos rfl (Ev_pos rfl (Ev_pos ?_ ?_)))))))))))
  · show (((ls.take n).length : Nat) : Int) = _
    rw [List.length_take]
    omega
  · refine Ev_succ ?_
    simp only [slipwaylaw11_SumCuts.j2]
    refine Ev_neg (by simp) ?_
    exact cuts_same ls (ls.take n) hr hx n hn rfl ls.length 0 (by omega)
theorem cuts_loop (ls : List (List Int)) (hB : ∀ l ∈ ls, B l) (hr : ls.length ≤ 20) (h1 : 1 ≤ ls.length) (a : Nat) (ha : a < 9223372036854775808) (d : Nat) : ∀ i : Nat, i + d = ls.length → (∀ l ∈ ls.take i, l.length ≤ 200) →
    Ev (fun k => slipwaylaw11_SumCuts.l0 k ls (a : Int) (frames (ls.take i)) ls (ls.length : Int) (i : Int)) true := by
  induction d with
  | zero =>
    intro i hi hx
    obtain rfl : i = ls.length := by omega
    rw [List.take_length] at hx ⊢
    exact cuts_end ls hB hx hr h1 a ha
  | succ d ih =>
    intro i hi hx
    have hlt : i < ls.length := by omega
    have hBi := hB _ (List.getElem_mem hlt)
    have hfl := frames_len (ls.take i) hx
    rw [List.length_take] at hfl
    by_cases c : (ls[i]).length ≤ 200
    · have e : ls.take (i + 1) = ls.take i ++ [ls[i]] := List.take_succ_eq_append_getElem hlt
      have h := ih (i + 1) (by omega) (by rw [e]; intro l hl; rcases List.mem_append.1 hl with hl | hl; exact hx l hl; rw [List.mem_singleton.1 hl]; exact c)
      rw [e, frames_snoc] at h
      refine Ev_succ ?_
      simp only [slipwaylaw11_SumCuts.l0, rdL hlt, show wrap64 ((i : Int) + 1) = ((i + 1 : Nat) : Int) by unfold wrap64; omega]
      refine Ev_pos (by omega) (Ev_pos (by omega) (Ev_pos (by omega) (Ev_neg (by omega) (Ev.bind (Frame_ev _ hBi (by omega)) (Ev_pos ?_ h)))))
      show (frames (ls.take i)).length + (frame ls[i]).length < _
      rw [frame_len]
      omega
    · exact Ev.step (f := fun _ => some true) (fun k => by rw [slipwaylaw11_SumCuts.l0, if_pos (by omega), if_pos (by omega), if_pos (by omega), rdL hlt, if_pos (by omega)]) (Ev.now _)
theorem SumCuts (l0 : List (List Int)) (g0 : goodList (goodList (fun x => (Lit.int .u8 x).wf = true)) l0) (a1 : Int) (w1 : (Lit.int .i64 a1).wf = true) : ∃ k, slipwaylaw11_SumCuts.f k l0 a1 = some true := by
  apply Ev.rounds (g := fun k => slipwaylaw11_SumCuts.f k l0 a1)
  have h1 := wf64 w1
  have ht : Ev (fun k => slipwaylaw11_SumCuts.j0 k l0 a1 true) true := Ev.step (f := fun _ => some true) (fun n => by rw [slipwaylaw11_SumCuts.j0, if_pos rfl]) (Ev.now _)
  unfold slipwaylaw11_SumCuts.f
  refine Ev.bind anchor_ev (Ev_pos rfl ?_)
  by_cases c1 : (l0.length : Int) < 1
  · exact Ev_pos c1 ht
  refine Ev_neg c1 ?_
  by_cases c2 : (l0.length : Int) > 20
  · exact Ev_pos c2 ht
  refine Ev_neg c2 ?_
  by_cases c3 : a1 < 0
  · rw [decide_eq_true c3]; exact ht
  rw [decide_eq_false c3]
  obtain ⟨a, rfl⟩ := Int.eq_ofNat_of_zero_le (show 0 ≤ a1 by omega)
  have h := cuts_loop l0 (fun l hl => B_good (g0.2 l hl)) (by omega) (by omega) a (by omega) l0.length 0 (by omega) (by simp)
  rw [List.take_zero] at h
  refine Ev.step (f := fun n => slipwaylaw11_SumCuts.l0 n l0 (a : Int) [] l0 (l0.length : Int) 0) (fun n => ?_) h
  rw [slipwaylaw11_SumCuts.j0, if_neg (by decide)]
end Go.Proofs.Ytobogmcihnikeaa.Pure
