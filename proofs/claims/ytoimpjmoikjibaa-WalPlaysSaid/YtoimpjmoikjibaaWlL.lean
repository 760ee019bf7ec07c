/- A log in a law: what it and its dock may reach lies behind the law's beginning; a dock with one file. -/
import Derived.Test.YtoimpjmoikjibaaWlS
import Derived.Test.YtoimpjmoikjibaaDkL
namespace Go.Proofs.Ytoimpjmoikjibaa.Wl
open Go Go.RowKit Go.Proofs.Ytoimpjmoikjibaa.IMap Go.Proofs.Ytoimpjmoikjibaa.Pure Go.Proofs.Ytoimpjmoikjibaa.P Go.Proofs.Ytoimpjmoikjibaa.Dk Go.Proofs.YtoimpjmoikjibaaW.PrintWords Go.Proofs.YtoimpjmoikjibaaW.PrintLast Go.Proofs.YtoimpjmoikjibaaW.PrintMore
set_option linter.unusedVariables false
set_option linter.unusedSimpArgs false
def LL (w0 w : World) (g l : Nat) (s : DS) (t : WS) : Prop := ∃ T, Lg w g l T s t ∧ (∀ k, T k → w0.heap.size ≤ k) ∧ Below w0.heap.size w0 w
def LDid (w0 : World) (g l : Nat) (r : Int × DS × WS) (e : Ending) (w' : World) : Prop := e = .returned (.int .i64 r.1) ∧ LL w0 w' g l r.2.1 r.2.2
section
variable {w0 w w1 : World} {g l : Nat} {s s1 : DS} {t t1 : WS}
theorem LL.from (h : LL w0 w g l s t) : Below w0.heap.size w0 w := by obtain ⟨T, _, _, h3⟩ := h; exact h3
theorem LL.turn {T : Nat → Prop} (h2 : ∀ k, T k → w0.heap.size ≤ k) (h3 : Below w0.heap.size w0 w) (hl : Lg w1 g l (Fr T w w1) s1 t1) (hc : Chg T w w1) : LL w0 w1 g l s1 t1 :=
  ⟨_, hl, fun k hk => by
    rcases hk with hk | hk
    · exact h2 k hk
    · have := h3.size; omega, hc.below h3 h3.size h2⟩
theorem LL.below (h : LL w0 w g l s t) (hb : Below w.heap.size w w1) : LL w0 w1 g l s t := by
  obtain ⟨T, h1, h2, h3⟩ := h
  have h4 := h1.below hb
  exact LL.turn h2 h3 h4.1 h4.2
theorem LL.lw (h : LL w0 w g l s t) : LW w0 w g s := by
  obtain ⟨T, h1, h2, h3⟩ := h
  exact ⟨T, h1.dk, fun k hk => ⟨h2 k hk, h1.bound k hk⟩, h3⟩
theorem LL.arg {T : Nat → Prop} (h2 : ∀ k, T k → w0.heap.size ≤ k) (h3 : Below w0.heap.size w0 w) {A : Option Addr} {c : Nat} {b : List Int} (hb : Kd.C kB w0 A b.length b) (hc : b.length ≤ c) : Arg w T A c b :=
  ⟨fun k => k < w0.heap.size, Kd.V_below (V_of_C hb hc 0) h3, fun k hk ht => by have := h2 k ht; omega⟩
theorem Open_L (h : LW w0 w g s) (hBD : BD s) {r : Int × DS × WS} (hr : openS s = r) (h0 : r.1 = 0) : Calls Try.prog 32 #[.pointer (some ⟨g, 0, none⟩)] w fun e w' => ∃ l, e = .returned (.tuple #[.pointer (some ⟨l, 0, none⟩), .int .i64 0]) ∧ LL w0 w' g l r.2.1 r.2.2 := by
  subst hr
  obtain ⟨S, h1, h2, h3⟩ := h
  refine (Open_T h1 (fun k hk => (h2 k hk).2) hBD).mono fun e w' ⟨hc, hh⟩ => ?_
  rcases hh with ⟨_, l, he, hl⟩ | ⟨hn, _⟩
  · exact ⟨l, he, LL.turn (fun k hk => (h2 k hk).1) h3 hl hc⟩
  · exact absurd h0 hn
theorem App_L (h : LL w0 w g l s t) (A : Option Addr) (c : Nat) (b : List Int) (hb : Kd.C kB w0 A b.length b) (hcc : b.length ≤ c) (hB : B b) (hm : b.length ≤ 100000000) (hrl : t.recs.length ≤ 1000000) (hsz : 0 ≤ t.size ∧ t.size ≤ 1000000000) {r : Int × DS × WS} (hr : appL s t b = r) :
    Calls Try.prog 39 #[.pointer (some ⟨l, 0, none⟩), .slice A b.length c] w (LDid w0 g l r) := by
  subst hr
  obtain ⟨T, h1, h2, h3⟩ := h
  exact (lapp_T h1 A c b (LL.arg h2 h3 hb hcc) hB hm hrl hsz).mono fun e w' ⟨he, hl, hc⟩ => ⟨he, LL.turn h2 h3 hl hc⟩
theorem Rot_L (h : LL w0 w g l s t) (A : Option Addr) (c : Nat) (b : List Int) (hb : Kd.C kB w0 A b.length b) (hcc : b.length ≤ c) (hB : B b) (hm : b.length ≤ 100000000) (hn : -10 ≤ t.name ∧ t.name ≤ 10000000) {r : Int × DS × WS} (hr : rotL s t b = r) :
    Calls Try.prog 40 #[.pointer (some ⟨l, 0, none⟩), .slice A b.length c] w (LDid w0 g l r) := by
  subst hr
  obtain ⟨T, h1, h2, h3⟩ := h
  exact (lrot_T h1 A c b (LL.arg h2 h3 hb hcc) hB hm hn).mono fun e w' ⟨he, hl, hc⟩ => ⟨he, LL.turn h2 h3 hl hc⟩
theorem Syn_L (h : LL w0 w g l s t) {r : Int × DS × WS} (hr : synL s t = r) :
    Calls Try.prog 42 #[.pointer (some ⟨l, 0, none⟩)] w (LDid w0 g l r) := by
  subst hr
  obtain ⟨T, h1, h2, h3⟩ := h
  exact (lsync_T h1).mono fun e w' ⟨he, hl, hc⟩ => ⟨he, LL.turn h2 h3 hl hc⟩
theorem Name_L (h : LL w0 w g l s t) {n : Int} (hn : t.name = n) : Calls Try.prog 33 #[.pointer (some ⟨l, 0, none⟩)] w fun e w' => e = .returned (.int .i64 n) ∧ w = w' := by
  subst hn
  obtain ⟨T, h1, _, _⟩ := h
  exact Name_T h1
theorem LSize_L (h : LL w0 w g l s t) {n : Int} (hn : t.size = n) : Calls Try.prog 34 #[.pointer (some ⟨l, 0, none⟩)] w fun e w' => e = .returned (.int .i64 n) ∧ w = w' := by
  subst hn
  obtain ⟨T, h1, _, _⟩ := h
  exact LSize_T h1
theorem Base_L (h : LL w0 w g l s t) {b : List Int} (hb : t.base = b) (hm : b.length ≤ 1000000000) : Calls Try.prog 36 #[.pointer (some ⟨l, 0, none⟩)] w fun e w' => ∃ v, e = .returned v ∧ Kd.R kB 5 w' w.heap.size (fun _ => True) v b ∧ Below w.heap.size w w' := by
  subst hb
  obtain ⟨T, h1, _, _⟩ := h
  exact Base_T h1 hm
theorem Records_L (h : LL w0 w g l s t) {rs : List (List Int)} (hb : t.recs = rs) (hm : ∀ r ∈ rs, r.length ≤ 1000000000) (hrl : rs.length ≤ 1000000) : Calls Try.prog 38 #[.pointer (some ⟨l, 0, none⟩)] w fun e w' => ∃ v, e = .returned v ∧ Kd.N kBs 22 w' w.heap.size (fun k => w.heap.size ≤ k) v rs ∧ Below w.heap.size w w' := by
  subst hb
  obtain ⟨T, h1, _, _⟩ := h
  exact Records_T h1 hm hrl
end
/-- A constant as an argument. -/
theorem Arg.lit {w : World} {T : Nat → Prop} (hT : ∀ k, T k → k < w.heap.size) (b : List Int) (m : Nat × Nat) (c : Nat) (hb : b.length ≤ 100000000) (hc : b.length ≤ c) : Arg (w.alloc (.cells (b.map (Value.int .u8)).toArray 5 m)) T (some ⟨w.heap.size, 0, none⟩) c b :=
  have hC := lit_Cm w .u8 5 m b (by omega)
  ⟨fun k => k = w.heap.size, Kd.V_mk hc (fun W' hW => by
    by_cases h0 : b.length = 0
    · exact ⟨hC.1, hC.2.1, fun hn => by omega⟩
    · exact C_block hC (hW _ rfl (by rw [World.size_alloc]; exact Nat.lt_succ_self _))), fun k hk ht => by have := hT k ht; omega⟩
theorem App_litL {w0 w : World} {g l : Nat} {s : DS} {t : WS} (h : LL w0 w g l s t) (b : List Int) (m : Nat × Nat) (c : Nat) (hc : b.length ≤ c) (hB : B b) (hm : b.length ≤ 100000000) (hrl : t.recs.length ≤ 1000000) (hsz : 0 ≤ t.size ∧ t.size ≤ 1000000000) {r : Int × DS × WS} (hr : appL s t b = r) :
    Calls Try.prog 39 #[.pointer (some ⟨l, 0, none⟩), .slice (some ⟨w.heap.size, 0, none⟩) b.length c] (w.alloc (.cells (b.map (Value.int .u8)).toArray 5 m)) (LDid w0 g l r) := by
  subst hr
  obtain ⟨T, h1, h2, h3⟩ := h
  have hbx := below_alloc (Below.refl w.heap.size w) (Obj.cells (b.map (Value.int .u8)).toArray 5 m)
  obtain ⟨hl1, hc1⟩ := h1.below hbx
  have h2' : ∀ k, Fr T w (w.alloc (.cells (b.map (Value.int .u8)).toArray 5 m)) k → w0.heap.size ≤ k := fun k hk => by
    rcases hk with hk | hk
    · exact h2 k hk
    · have := h3.size; omega
  have hA := Arg.lit (T := T) h1.bound b m c hm hc
  have hl2 : Lg (w.alloc (.cells (b.map (Value.int .u8)).toArray 5 m)) g l T s t := by
    obtain ⟨S, U, vb, vr, hI, hS, hU, hl, hT⟩ := h1
    exact ⟨S, U, vb, vr, hI.below hbx, hS, hU, hl, fun k hk => Nat.lt_of_lt_of_le (hT k hk) hbx.size⟩
  exact (lapp_T hl2 _ c b hA hB hm hrl hsz).mono fun e w' ⟨he, hl, hcc⟩ => ⟨he, LL.turn h2 (below_step h3 hbx) hl hcc⟩
/-- An element of a row of rows that a law was given. -/
theorem rows_at {w : World} {A : Option Addr} {xs : List (List Int)} (h : Kd.C kBs w A xs.length xs) (i : Nat) (x : List Int) (hx : xs[i]? = some x) :
    ∃ ad A1 c1, A = some ad ∧ (∀ w1, Below w.heap.size w w1 → w1.cell? (ad.add i) = some (.slice A1 x.length c1)) ∧ Kd.C kB w A1 x.length x ∧ x.length ≤ c1 := by
  obtain ⟨ad, e, hc⟩ := h.2.2 (by cases xs with | nil => simp at hx | cons y r => simp)
  obtain ⟨cs, h1, h2, h3⟩ := hc i _ hx
  obtain ⟨A1, c1, rfl, hcd, hd⟩ := h2
  have f0 : w.cell? (ad.add i) = some (.slice A1 x.length c1) := by
    have := h3 0 _ rfl
    rw [show i * kBs.sz + 0 = i from by show i * 1 + 0 = i; omega] at this
    exact this
  exact ⟨ad, A1, c1, e, fun w1 hb => pw_cell_below hb f0, hd, hcd⟩
/-! A dock with one file. -/
def ws (k : Int) (n : Nat) (b : List Int) (rs : List (List Int)) : WS := ⟨k, (n : Int), b, rs, false⟩
theorem one_size (k : Int) (b : List Int) (sf : Nat) (c : Int) : size (Dk.one k b sf c).M = b.length := size_one k b sf c
theorem BD_new (c : Int) : BD (new c) := fun p hp => by cases hp
theorem open_new (c : Int) (h : 9 ≤ c) : openS (new c) = (0, Dk.one 0 (frame [0]) 9 c, ws 0 9 [] []) := by
  have e1 : findW (new c).M = none := rfl
  have hl : (frame [0]).length = 9 := by rw [frame_len]; rfl
  have e2 : app (new c) 0 (frame [0]) = (0, Dk.one 0 (frame [0]) 0 c) := app_new 0 _ c (by omega) (by omega) (by omega)
  have e3 : syn (Dk.one 0 (frame [0]) 0 c) 0 = (0, Dk.one 0 (frame [0]) 9 c) := by rw [syn_one, hl]
  have e4 : beginS (new c) ws0 0 [] = (0, Dk.one 0 (frame [0]) 9 c, ws 0 9 [] []) := by
    unfold beginS
    rw [if_neg (by decide), e2, if_neg (fun h => h rfl), e3, if_neg (fun h => h rfl)]
    rfl
  unfold openS
  rw [if_neg (by simp [new]), e1]
  have e5 : rmAll (foundT ws0 none).name (keys (new c).M) (new c) = (0, new c) := rfl
  rw [e5, if_neg (fun h => h rfl)]
  unfold openE
  rw [if_pos (show (foundT ws0 none).name < 0 from by decide)]
  exact e4
theorem app_ws (k : Int) (b : List Int) (sf : Nat) (c : Int) (n : Nat) (bs : List Int) (rs : List (List Int)) (r : List Int) (h0 : 0 ≤ k) (h1 : k ≤ 999999) (hr : r.length ≤ 65535) (hb : (b.length : Int) + (r.length + 9) ≤ c) :
    appL (Dk.one k b sf c) (ws k n bs rs) r = (0, Dk.one k (b ++ frame (1 :: r)) sf c, ws k (n + (r.length + 9)) bs (rs ++ [r])) := by
  have hl : (frame (1 :: r)).length = r.length + 9 := by rw [frame_len]; rfl
  unfold appL
  have e : app (Dk.one k b sf c) (ws k n bs rs).name (frame (1 :: r)) = (0, Dk.one k (b ++ frame (1 :: r)) sf c) := app_one k b _ sf c h0 h1 (by rw [hl]; omega)
  rw [if_neg (show ¬ ((ws k n bs rs).closed = true) from Bool.false_ne_true), if_neg (by omega), e, if_neg (fun h => h rfl)]
  show (_, _, _) = _
  unfold ws
  congr 3
def two (k : Int) (b : List Int) (sf : Nat) (b2 : List Int) (sf2 : Nat) (c : Int) : DS := ⟨[(k, (b, sf)), (k + 1, (b2, sf2))], c, -1, false⟩
theorem get_two (k : Int) (b : List Int) (sf : Nat) (x : List Int × Nat) (c : Int) : get [(k, (b, sf)), (k + 1, x)] (k + 1) = some x := by
  rw [get_cons, if_neg (by show ¬ (k = k + 1); omega), get_cons, if_pos rfl]
theorem app_two (k : Int) (b : List Int) (sf : Nat) (m : List Int) (c : Int) (h0 : 0 ≤ k) (h1 : k < 999999) (hb : (b.length : Int) + m.length ≤ c) : app (Dk.one k b sf c) (k + 1) m = (0, two k b sf m 0 c) := by
  have eg : get (Dk.one k b sf c).M (k + 1) = none := by
    unfold Dk.one
    rw [get_cons, if_neg (by show ¬ (k = k + 1); omega), get_nil]
  have ei : ∀ x, ins (Dk.one k b sf c).M (k + 1) x = [(k, (b, sf)), (k + 1, x)] := fun x => by
    unfold Dk.one
    rw [ins, if_neg (by show ¬ (k + 1 < k); omega), if_neg (by show ¬ (k = k + 1); omega), ins]
  unfold app
  rw [if_neg (by simp [Dk.one]), if_neg (by omega), if_neg (by rw [size_one]; show ¬ c < _; omega)]
  rw [eg, ei]
  rfl
theorem syn_two (k : Int) (b : List Int) (sf : Nat) (m : List Int) (c : Int) : syn (two k b sf m 0 c) (k + 1) = (0, two k b sf m m.length c) := by
  have hf : findE (two k b sf m 0 c) (k + 1) = 0 := by
    unfold findE two
    rw [if_neg (by simp), get_two (c := c)]
    rfl
  have ei : ∀ x y, ins [(k, (b, sf)), (k + 1, x)] (k + 1) y = [(k, (b, sf)), (k + 1, y)] := fun x y => by
    rw [ins, if_neg (by show ¬ (k + 1 < k); omega), if_neg (by show ¬ (k = k + 1); omega), ins, if_neg (by show ¬ (k + 1 < k + 1); omega), if_pos rfl]
  unfold syn
  rw [hf, if_neg (by decide)]
  have e : stepS (two k b sf m 0 c) = two k b sf m 0 c := rfl
  rw [e, if_neg (by simp [two])]
  simp only [two, get_two (c := c), Option.getD_some, ei]
theorem rmv_two (k : Int) (b : List Int) (sf : Nat) (m : List Int) (n : Nat) (c : Int) : rmv (two k b sf m n c) k = (0, Dk.one (k + 1) m n c) := by
  have hf : findE (two k b sf m n c) k = 0 := by
    unfold findE two
    rw [if_neg (by simp), get_cons, if_pos rfl]
    rfl
  unfold rmv
  rw [hf, if_neg (by decide)]
  have e : stepS (two k b sf m n c) = two k b sf m n c := rfl
  rw [e, if_neg (by simp [two])]
  simp only [two, rem, Dk.one]
  rw [List.filter_cons_of_neg (by simp), List.filter_cons_of_pos (by simp; omega)]
  rfl
theorem rot_ws (k : Int) (b : List Int) (sf : Nat) (c : Int) (n : Nat) (bs : List Int) (rs : List (List Int)) (r : List Int) (h0 : 0 ≤ k) (h1 : k < 999999) (hr : r.length ≤ 65535) (hb : (b.length : Int) + (r.length + 9) ≤ c) :
    rotL (Dk.one k b sf c) (ws k n bs rs) r = (0, Dk.one (k + 1) (frame (0 :: r)) (r.length + 9) c, ws (k + 1) (r.length + 9) r []) := by
  have hl : (frame (0 :: r)).length = r.length + 9 := by rw [frame_len]; rfl
  have e2 := app_two k b sf (frame (0 :: r)) c h0 h1 (by rw [hl]; omega)
  have e3 := syn_two k b sf (frame (0 :: r)) c
  rw [hl] at e3
  have e4 := rmv_two k b sf (frame (0 :: r)) (r.length + 9) c
  have e5 : beginS (Dk.one k b sf c) (ws k n bs rs) (k + 1) r = (0, two k b sf (frame (0 :: r)) (r.length + 9) c, ws (k + 1) (r.length + 9) r []) := by
    unfold beginS
    rw [if_neg (by omega), e2, if_neg (fun h => h rfl), e3, if_neg (fun h => h rfl)]
    rfl
  unfold rotL
  have hn : (ws k n bs rs).name = k := rfl
  rw [if_neg (show ¬ ((ws k n bs rs).closed = true) from Bool.false_ne_true), hn, e5, if_neg (fun h => h rfl)]
  dsimp only
  rw [e4]
  rw [told_zero]
end Go.Proofs.Ytoimpjmoikjibaa.Wl
namespace Go.Proofs.Ytoimpjmoikjibaa.Wl
open Go Go.RowKit Go.Proofs.Ytoimpjmoikjibaa.IMap Go.Proofs.Ytoimpjmoikjibaa.Pure Go.Proofs.Ytoimpjmoikjibaa.P Go.Proofs.Ytoimpjmoikjibaa.Dk Go.Proofs.YtoimpjmoikjibaaW.PrintWords Go.Proofs.YtoimpjmoikjibaaW.PrintLast Go.Proofs.YtoimpjmoikjibaaW.PrintMore
set_option linter.unusedVariables false
set_option linter.unusedSimpArgs false
theorem refFrame_T (a : Int) (A : Option Addr) (c : Nat) (b : List Int) (w : World) (hr : Kd.C kB w A b.length b) (hc : b.length ≤ c) (hB : B b) (hm : b.length ≤ 100000000000) :
    Calls Try.prog 43 #[.int .i64 a, .slice A b.length c] w fun e w' => ∃ v, e = .returned v ∧ Kd.R kB 5 w' w.heap.size (fun _ => True) v (frame (a % 256 :: b)) ∧ Below w.heap.size w w' := by
  obtain ⟨k, hk⟩ := refFrame_ev a b hB (by omega)
  exact slipwayref14_Frame.calls k a A c b _ w hr hc (hk k (Nat.le_refl _))
theorem same_T (A0 A1 : Option Addr) (c0 c1 : Nat) (l0 l1 : List Int) (w : World) (h0 : Kd.C kB w A0 l0.length l0) (hc0 : l0.length ≤ c0) (h1 : Kd.C kB w A1 l1.length l1) (hc1 : l1.length ≤ c1) (hm : l0.length ≤ 100000000000) :
    Calls Try.prog 35 #[.slice A0 l0.length c0, .slice A1 l1.length c1] w fun e w' => e = .returned (.bool (decide (l0 = l1))) ∧ Below w.heap.size w w' := by
  obtain ⟨k, hk⟩ := Same_ev l0 l1 (by omega)
  exact (slipwayref11_Same.calls k A0 c0 l0 A1 c1 l1 _ w h0 hc0 h1 hc1 (hk k (Nat.le_refl _))).mono fun e w' ⟨he, hd⟩ => ⟨he, hd.below⟩
theorem sames_T (A0 A1 : Option Addr) (c0 c1 : Nat) (l0 l1 : List (List Int)) (w : World) (h0 : Kd.C kBs w A0 l0.length l0) (hc0 : l0.length ≤ c0) (h1 : Kd.C kBs w A1 l1.length l1) (hc1 : l1.length ≤ c1) (hm : l0.length ≤ 1000000) (hx : ∀ x ∈ l0, x.length ≤ 1000000000) :
    Calls Try.prog 37 #[.slice A0 l0.length c0, .slice A1 l1.length c1] w fun e w' => e = .returned (.bool (decide (l0 = l1))) ∧ Below w.heap.size w w' := by
  obtain ⟨k, hk⟩ := refSame_ev l0 l1 (by omega) (fun x hx' => by have := hx x hx'; omega)
  exact (slipwayref14_Same.calls k A0 c0 l0 A1 c1 l1 _ w h0 hc0 h1 hc1 (hk k (Nat.le_refl _))).mono fun e w' ⟨he, hd⟩ => ⟨he, hd.below⟩
theorem join_T (A0 A1 : Option Addr) (c0 c1 : Nat) (l0 l1 : List Int) (w : World) (h0 : Kd.C kB w A0 l0.length l0) (hc0 : l0.length ≤ c0) (h1 : Kd.C kB w A1 l1.length l1) (hc1 : l1.length ≤ c1) (hm : l0.length + l1.length ≤ 100000000000) :
    Calls Try.prog 55 #[.slice A0 l0.length c0, .slice A1 l1.length c1] w fun e w' => ∃ v, e = .returned v ∧ Kd.R kB 5 w' w.heap.size (fun _ => True) v (l0 ++ l1) ∧ Below w.heap.size w w' :=
  slipwayref11_Join.calls A0 c0 l0 A1 c1 l1 _ w h0 hc0 h1 hc1 (Join_f l0 l1 (by omega))
theorem f0_len : (frame [0]).length = 9 := by rw [frame_len]; rfl
theorem f1_len : (frame [1, 97]).length = 10 := by rw [frame_len]; rfl
theorem B97 : B [97] := fun x h => by simp only [List.mem_singleton] at h; omega
theorem anchor_app : appL (Dk.one 0 (frame [0]) 9 100) (ws 0 9 [] []) [97] = (0, Dk.one 0 (frame [0] ++ frame [1, 97]) 9 100, ws 0 19 [] [[97]]) :=
  app_ws 0 _ 9 100 9 [] [] [97] (by omega) (by omega) (by decide) (by rw [f0_len]; decide)
set_option maxHeartbeats 8000000 in
set_option maxRecDepth 100000 in
theorem anchor_T (w : World) : Calls Try.prog 30 #[] w fun e w' => e = .returned (.bool true) ∧ Below w.heap.size w w' := by
  have K := Aside0.mk (New_L (w0 := w) 100 w (by omega) (by omega) (Below.refl _ _))
  have kc := fun (w : World) (C : Array Value) (n c : Nat) => Lib.run_convert_bytes_const (P := Try.prog) w 22 5 C n c Try.underlying22 Try.underlying5
  go_enter Try.func30, Try.ntmps30
  go_wp2_with (fail)
  refine K.out.mono ?_
  rintro e w1 ⟨g, rfl, h1⟩
  have K1 := Aside0.mk (Open_L h1 (BD_new 100) (open_new 100 (by omega)) rfl)
  clear h1 K
  go_wp2_with (fail)
  refine K1.out.mono ?_
  rintro e w2 ⟨l, rfl, h2⟩
  have h2 : LL w w2 g l (Dk.one 0 (frame [0]) 9 100) (ws 0 9 [] []) := h2
  have KS := Aside0.mk (LSize_L h2 (n := 9) rfl)
  have KN := Aside0.mk (Name_L h2 (n := 0) rfl)
  have KA := Aside0.mk (App_litL h2 [97] (1, 2) 1 (by decide) B97 (by decide) (by decide) (by decide) anchor_app)
  clear h2 K1
  go_wp2_with (fail)
  refine KS.out.mono ?_
  rintro e w3 ⟨rfl, rfl⟩
  clear KS
  go_wp2_with (fail)
  refine KN.out.mono ?_
  rintro e w3 ⟨rfl, rfl⟩
  clear KN
  go_wp2_with (fail)
  refine KA.out.mono ?_
  rintro e w3 ⟨rfl, h3⟩
  have h3 : LL w w3 g l (Dk.one 0 (frame [0] ++ frame [1, 97]) 9 100) (ws 0 19 [] [[97]]) := h3
  have K3 := Read_L h3.lw 0
  rw [findE_one, bytes_one] at K3
  have K3 := Aside0.mk K3
  have H3 := Aside0.mk h3
  clear h3 KA
  go_wp2_with (fail)
  refine K3.out.mono ?_
  rintro e w4 ⟨v, rfl, hv, _, hb⟩
  have H4 := Aside0.mk (H3.out.below hb)
  obtain ⟨A1, c1, rfl⟩ := Kd.R_slice hv
  have HV := Aside0.mk hv
  obtain ⟨n1, hn1⟩ : ∃ n, (frame [0] ++ frame [1, 97]).length = n := ⟨_, rfl⟩
  rw [hn1] at HV ⊢
  have HN1 := Aside0.mk hn1
  have K5 := Aside0.mk (refFrame_T 0 none 0 [] w4 (Kd.C_nil _ _) (Nat.le_refl _) B_nil (by decide))
  clear hv hb K3 H3 hn1
  go_wp2_with (fail)
  refine K5.out.mono ?_
  rintro e w5 ⟨v5, rfl, hv5, hb5⟩
  have hv5 : Kd.R kB 5 w5 w4.heap.size (fun _ => True) v5 (frame [0]) := hv5
  obtain ⟨A5, c5, rfl⟩ := Kd.R_slice hv5
  rw [f0_len] at hv5 ⊢
  have HV5 := Aside0.mk hv5
  have HB5 := Aside0.mk hb5
  have K6 := Aside0.mk (refFrame_T 1 (some ⟨w5.heap.size, 0, none⟩) 1 [97] (w5.alloc (.cells #[.int .u8 97] 5 (1, 2))) (lit_Cm w5 .u8 5 (1, 2) [97] (by decide)) (by decide) B97 (by decide))
  clear hv5 hb5 K5
  go_wp2_with (fail)
  refine K6.out.mono ?_
  rintro e w6 ⟨v6, rfl, hv6, hb6⟩
  have hv6 : Kd.R kB 5 w6 _ (fun _ => True) v6 (frame [1, 97]) := hv6
  obtain ⟨A6, c6, rfl⟩ := Kd.R_slice hv6
  rw [f1_len] at hv6 ⊢
  have HB6 := Aside0.mk ((below_alloc (Below.refl w5.heap.size w5) (.cells #[.int .u8 97] 5 (1, 2))).trans (hb6.mono (by rw [World.size_alloc]; exact Nat.le_succ _)))
  have r5 := Kd.R_reads' (Kd.R_below HV5.out HB6.out)
  have r6 := Kd.R_reads' hv6
  have K7 := join_T A5 A6 c5 c6 (frame [0]) (frame [1, 97]) w6 (by rw [← r5.1]; exact r5.2.2) (by rw [← r5.1]; exact r5.2.1) (by rw [← r6.1]; exact r6.2.2) (by rw [← r6.1]; exact r6.2.1) (by rw [f0_len, f1_len]; decide)
  rw [f0_len, f1_len] at K7
  have K7 := Aside0.mk K7
  clear hv6 hb6 K6 r5 r6
  go_wp2_with (fail)
  refine K7.out.mono ?_
  rintro e w7 ⟨v7, rfl, hv7, hb7⟩
  obtain ⟨A7, c7, rfl⟩ := Kd.R_slice hv7
  rw [HN1.out] at hv7 ⊢
  have hb47 : Below w4.heap.size w4 w7 := below_step (below_step HB5.out HB6.out) hb7
  have HB47 := Aside0.mk hb47
  have r4 := Kd.R_reads' (Kd.R_below HV.out hb47)
  have r7 := Kd.R_reads' hv7
  have K8 := same_T A1 A7 c1 c7 (frame [0] ++ frame [1, 97]) (frame [0] ++ frame [1, 97]) w7 r4.2.2 (by rw [← r4.1]; exact r4.2.1) r7.2.2 (by rw [← r7.1]; exact r7.2.1) (by rw [HN1.out, ← HN1.out, List.length_append, f0_len, f1_len]; decide)
  rw [HN1.out, decide_eq_true (rfl : frame [0] ++ frame [1, 97] = frame [0] ++ frame [1, 97])] at K8
  have K8 := Aside0.mk K8
  clear hv7 hb7 K7 r4 r7 hb47
  go_wp2_with (fail)
  refine K8.out.mono ?_
  rintro e w8 ⟨rfl, hb8⟩
  have H8 := Aside0.mk (H4.out.below (below_step HB47.out hb8))
  have K9 := Aside0.mk (Records_L H8.out (rs := [[97]]) rfl (fun r hr => by simp only [List.mem_singleton] at hr; rw [hr]; decide) (by decide))
  clear hb8 K8
  go_wp2_with (fail)
  refine K9.out.mono ?_
  rintro e w9 ⟨v9, rfl, hv9, hb9⟩
  obtain ⟨A9, c9, rfl⟩ := Kd.N_slice hv9
  have H9 := Aside0.mk (H8.out.below hb9)
  clear hv9 hb9 K9
  go_wp2
  go_ret
  exact ⟨rfl, H9.out.from⟩
end Go.Proofs.Ytoimpjmoikjibaa.Wl
namespace Go.Proofs.Ytoimpjmoikjibaa.Wl
open Go Go.RowKit Go.Proofs.Ytoimpjmoikjibaa.IMap Go.Proofs.Ytoimpjmoikjibaa.Pure Go.Proofs.Ytoimpjmoikjibaa.P Go.Proofs.Ytoimpjmoikjibaa.Dk Go.Proofs.YtoimpjmoikjibaaW.PrintWords Go.Proofs.YtoimpjmoikjibaaW.PrintLast Go.Proofs.YtoimpjmoikjibaaW.PrintMore
set_option linter.unusedVariables false
set_option linter.unusedSimpArgs false
def recB (rs : List (List Int)) : List Int := (rs.map fun r => frame (1 :: r)).flatten
def img (b : List Int) (rs : List (List Int)) : List Int := frame (0 :: b) ++ recB rs
theorem recB_app (rs : List (List Int)) (r : List Int) : recB (rs ++ [r]) = recB rs ++ frame (1 :: r) := by unfold recB; simp
theorem recB_cons (rs : List (List Int)) (r : List Int) : recB (r :: rs) = frame (1 :: r) ++ recB rs := by unfold recB; simp
theorem img_app (b : List Int) (rs : List (List Int)) (r : List Int) : img b (rs ++ [r]) = img b rs ++ frame (1 :: r) := by unfold img; rw [recB_app, List.append_assoc]
theorem img_nil (b : List Int) : img b [] = frame (0 :: b) := by unfold img recB; simp
theorem drop_frame (p r : List Int) : (frame p ++ r).drop (p.length + 8) = r := by
  rw [← frame_len]
  exact List.drop_left
theorem recsW_recB (rs : List (List Int)) (h : ∀ r ∈ rs, B r ∧ r.length ≤ 65535) : recsW (recB rs) = (rs, (recB rs).length) := by
  induction rs with
  | nil => exact recsW_neg (b := []) (fun h => absurd h.1 (by rw [opened_nil]; decide))
  | cons r rs ih =>
    obtain ⟨hB, hl⟩ := h r List.mem_cons_self
    have ho := opened_frame (1 :: r) (recB rs) (B_cons (by omega) hB) (by rw [List.length_cons]; omega)
    rw [recB_cons, recsW_pos ⟨by rw [ho], by rw [ho]; rfl⟩, ho]
    dsimp only
    rw [drop_frame, ih (fun x hx => h x (List.mem_cons_of_mem _ hx)), List.length_append, frame_len]
    rfl
theorem wlog_img (b : List Int) (rs : List (List Int)) (hB : B b) (hl : b.length ≤ 65535) (h : ∀ r ∈ rs, B r ∧ r.length ≤ 65535) : wlog (img b rs) = some (b, rs, (img b rs).length) := by
  have ho := opened_frame (0 :: b) (recB rs) (B_cons (by omega) hB) (by rw [List.length_cons]; omega)
  unfold wlog img
  rw [if_pos ⟨by rw [ho], by rw [ho]; rfl⟩, ho]
  dsimp only
  rw [drop_frame, recsW_recB rs h, List.length_append, frame_len]
  rfl
theorem open_img (k : Int) (b : List Int) (rs : List (List Int)) (sf : Nat) (c : Int) (h0 : 0 ≤ k) (hB : B b) (hl : b.length ≤ 65535) (h : ∀ r ∈ rs, B r ∧ r.length ≤ 65535) :
    openS (Dk.one k (img b rs) sf c) = (0, Dk.one k (img b rs) (img b rs).length c, ws k (img b rs).length b rs) := by
  have e1 : findW (Dk.one k (img b rs) sf c).M = some (k, (b, rs, (img b rs).length), (img b rs).length) := by
    show pick none (k, (img b rs, sf)) = _
    unfold pick
    rw [wlog_img b rs hB hl h]
  have e2 : foundT ws0 (some (k, (b, rs, (img b rs).length), (img b rs).length)) = ws k (img b rs).length b rs := rfl
  have e3 : rmAll (ws k (img b rs).length b rs).name (keys (Dk.one k (img b rs) sf c).M) (Dk.one k (img b rs) sf c) = (0, Dk.one k (img b rs) sf c) := by
    show rmAll k [k] _ = _
    rw [rmAll, if_pos rfl]
    rfl
  unfold openS
  rw [if_neg (by simp [Dk.one]), e1, e2, e3, if_neg (fun h => h rfl)]
  unfold openE
  rw [if_neg (show ¬ ((ws k (img b rs).length b rs).name < 0) from by show ¬ (k < 0); omega), if_neg (show ¬ ((ws k (img b rs).length b rs).size < ((foundN (some (k, (b, rs, (img b rs).length), (img b rs).length)) : Nat) : Int)) from by show ¬ (((img b rs).length : Int) < ((img b rs).length : Int)); omega)]
  show ((syn (Dk.one k (img b rs) sf c) k).1, (syn (Dk.one k (img b rs) sf c) k).2, _) = _
  rw [syn_one]
theorem syn_ws (k : Int) (b : List Int) (sf : Nat) (c : Int) (n : Nat) (bs : List Int) (rs : List (List Int)) : synL (Dk.one k b sf c) (ws k n bs rs) = (0, Dk.one k b b.length c, ws k n bs rs) := by
  unfold synL
  rw [if_neg (show ¬ ((ws k n bs rs).closed = true) from Bool.false_ne_true)]
  show ((syn (Dk.one k b sf c) k).1, (syn (Dk.one k b sf c) k).2, told _ (syn (Dk.one k b sf c) k).1) = _
  rw [syn_one]
  dsimp only
  rw [told_zero]
theorem told_full (k : Int) (n : Nat) (bs : List Int) (rs : List (List Int)) : told (ws k n bs rs) 50 = ws k n bs rs := rfl
theorem app_full (k j : Int) (b : List Int) (sf : Nat) (c : Int) (m : List Int) (h0 : 0 ≤ j) (h1 : j ≤ 999999) (hb : c < (b.length : Int) + m.length) : app (Dk.one k b sf c) j m = (50, Dk.one k b sf c) := by
  unfold app
  rw [if_neg (by simp [Dk.one]), if_neg (by omega), if_pos (by rw [size_one]; exact hb)]
theorem app_no (k : Int) (b : List Int) (sf : Nat) (c : Int) (n : Nat) (bs : List Int) (rs : List (List Int)) (r : List Int) (h0 : 0 ≤ k) (h1 : k ≤ 999999) (hr : r.length ≤ 65535) (hb : c < (b.length : Int) + (r.length + 9)) :
    appL (Dk.one k b sf c) (ws k n bs rs) r = (50, Dk.one k b sf c, ws k n bs rs) := by
  have hl : (frame (1 :: r)).length = r.length + 9 := by rw [frame_len]; rfl
  unfold appL
  have e : app (Dk.one k b sf c) (ws k n bs rs).name (frame (1 :: r)) = (50, Dk.one k b sf c) := app_full k k b sf c _ h0 h1 (by rw [hl]; omega)
  rw [if_neg (show ¬ ((ws k n bs rs).closed = true) from Bool.false_ne_true), if_neg (by omega), e, if_pos (show (50 : Int) ≠ 0 by decide)]
  rfl
theorem rot_no (k : Int) (b : List Int) (sf : Nat) (c : Int) (n : Nat) (bs : List Int) (rs : List (List Int)) (r : List Int) (h0 : 0 ≤ k) (h1 : k < 999999) (hr : r.length ≤ 65535) (hb : c < (b.length : Int) + (r.length + 9)) :
    rotL (Dk.one k b sf c) (ws k n bs rs) r = (50, Dk.one k b sf c, ws k n bs rs) := by
  have hl : (frame (0 :: r)).length = r.length + 9 := by rw [frame_len]; rfl
  have e : app (Dk.one k b sf c) (k + 1) (frame (0 :: r)) = (50, Dk.one k b sf c) := app_full k (k + 1) b sf c _ (by omega) (by omega) (by rw [hl]; omega)
  have e5 : beginS (Dk.one k b sf c) (ws k n bs rs) (k + 1) r = (50, Dk.one k b sf c, ws k n bs rs) := by
    unfold beginS
    rw [if_neg (by omega), e, if_pos (show (50 : Int) ≠ 0 by decide)]
  unfold rotL
  have hn : (ws k n bs rs).name = k := rfl
  rw [if_neg (show ¬ ((ws k n bs rs).closed = true) from Bool.false_ne_true), hn, e5, if_pos (show (50 : Int) ≠ 0 by decide)]
  rfl
/-! A log beside rows of the law's own (the blocks X). -/
theorem Lg.keep {w w1 : World} {g l : Nat} {T : Nat → Prop} {s : DS} {t : WS} (h : Lg w g l T s t) (hs : w.heap.size ≤ w1.heap.size) (hk : ∀ k, T k → w1.heap[k]? = w.heap[k]?) : Lg w1 g l T s t := by
  obtain ⟨S, U, vb, vr, hI, hS, hU, hl, hT⟩ := h
  exact ⟨S, U, vb, vr, { dk := hI.dk.move (fun k h1 _ => hk k (hS k h1)), lc := (hk l hl).trans hI.lc, us := hI.us, ub := fun k h1 => Nat.lt_of_lt_of_le (hI.ub k h1) hs, sb := fun k h1 => Nat.lt_of_lt_of_le (hI.sb k h1) hs, ls := hI.ls, base := Kd.V_step hI.base (fun k h1 _ => hk k (hU k h1.1)), recs := Kd.N_step hI.recs (fun k h1 _ => hk k (hU k h1)) }, hS, hU, hl, fun k h1 => Nat.lt_of_lt_of_le (hT k h1) hs⟩
def LX (w0 w : World) (g l : Nat) (s : DS) (t : WS) (X : Nat → Prop) : Prop := (∃ T, Lg w g l T s t ∧ ∀ k, T k → w0.heap.size ≤ k ∧ ¬ X k) ∧ (∀ k, X k → k < w.heap.size) ∧ Below w0.heap.size w0 w
def XDid (w0 w : World) (g l : Nat) (X : Nat → Prop) (r : Int × DS × WS) (e : Ending) (w' : World) : Prop := e = .returned (.int .i64 r.1) ∧ LX w0 w' g l r.2.1 r.2.2 X ∧ ∀ k, X k → w'.heap[k]? = w.heap[k]?
section
variable {w0 w w1 : World} {g l : Nat} {s s1 : DS} {t t1 : WS} {X : Nat → Prop}
theorem LX.ll (h : LX w0 w g l s t X) : LL w0 w g l s t := by
  obtain ⟨⟨T, h1, h2⟩, hX, h3⟩ := h
  exact ⟨T, h1, fun k hk => (h2 k hk).1, h3⟩
theorem LX.from (h : LX w0 w g l s t X) : Below w0.heap.size w0 w := h.2.2
theorem LX.of (h : LL w0 w g l s t) : LX w0 w g l s t (fun _ => False) := by
  obtain ⟨T, h1, h2, h3⟩ := h
  exact ⟨⟨T, h1, fun k hk => ⟨h2 k hk, fun h => h⟩⟩, fun k hk => hk.elim, h3⟩
theorem LX.turn {T : Nat → Prop} (h2 : ∀ k, T k → w0.heap.size ≤ k ∧ ¬ X k) (hX : ∀ k, X k → k < w.heap.size) (h3 : Below w0.heap.size w0 w) (hl : Lg w1 g l (Fr T w w1) s1 t1) (hc : Chg T w w1) : LX w0 w1 g l s1 t1 X ∧ ∀ k, X k → w1.heap[k]? = w.heap[k]? :=
  ⟨⟨⟨_, hl, fun k hk => by
    rcases hk with hk | hk
    · exact h2 k hk
    · exact ⟨by have := h3.size; omega, fun hx => by have := hX k hx; omega⟩⟩, fun k hk => Nat.lt_of_lt_of_le (hX k hk) hc.1.size, hc.below h3 h3.size (fun k hk => (h2 k hk).1)⟩, fun k hk => hc.2 k (hX k hk) (fun ht => (h2 k ht).2 hk)⟩
/-- The law's own rows have turned, or something new was made. -/
theorem LX.keep (h : LX w0 w g l s t X) (hb : Below w0.heap.size w0 w1) (hs : w.heap.size ≤ w1.heap.size) (hk : ∀ k, k < w.heap.size → ¬ X k → w1.heap[k]? = w.heap[k]?) : LX w0 w1 g l s t (fun k => X k ∨ (w.heap.size ≤ k ∧ k < w1.heap.size)) := by
  obtain ⟨⟨T, h1, h2⟩, hX, h3⟩ := h
  refine ⟨⟨T, h1.keep hs (fun k ht => hk k (h1.bound k ht) (h2 k ht).2), fun k ht => ⟨(h2 k ht).1, fun hx => ?_⟩⟩, fun k hx => ?_, hb⟩
  · rcases hx with hx | hx
    · exact (h2 k ht).2 hx
    · have := h1.bound k ht; omega
  · rcases hx with hx | hx
    · have := hX k hx; omega
    · exact hx.2
theorem LX.below (h : LX w0 w g l s t X) (hb : Below w.heap.size w w1) : LX w0 w1 g l s t (fun k => X k ∨ (w.heap.size ≤ k ∧ k < w1.heap.size)) := h.keep (below_step h.from hb) hb.size (fun k hk _ => hb.block k hk)
theorem LX.mono {X' : Nat → Prop} (h : LX w0 w g l s t X) (hX : ∀ k, X' k → X k) : LX w0 w g l s t X' := by
  obtain ⟨⟨T, h1, h2⟩, hx, h3⟩ := h
  exact ⟨⟨T, h1, fun k hk => ⟨(h2 k hk).1, fun h => (h2 k hk).2 (hX k h)⟩⟩, fun k hk => hx k (hX k hk), h3⟩
theorem LX.arg {T : Nat → Prop} (h2 : ∀ k, T k → w0.heap.size ≤ k ∧ ¬ X k) {v : Value} {A : Option Addr} {c : Nat} {b : List Int} {P : Nat → Prop} (hv : Kd.V kB 5 w 0 P (.slice A b.length c) b) (hP : ∀ k, P k → k < w0.heap.size ∨ X k) : Arg w T A c b :=
  ⟨P, hv, fun k hk ht => by
    rcases hP k hk with h | h
    · have := (h2 k ht).1; omega
    · exact (h2 k ht).2 h⟩
theorem App_X (h : LX w0 w g l s t X) (A : Option Addr) (c : Nat) (b : List Int) {P : Nat → Prop} (hv : Kd.V kB 5 w 0 P (.slice A b.length c) b) (hP : ∀ k, P k → k < w0.heap.size ∨ X k) (hB : B b) (hm : b.length ≤ 100000000) (hrl : t.recs.length ≤ 1000000) (hsz : 0 ≤ t.size ∧ t.size ≤ 1000000000) {r : Int × DS × WS} (hr : appL s t b = r) :
    Calls Try.prog 39 #[.pointer (some ⟨l, 0, none⟩), .slice A b.length c] w (XDid w0 w g l X r) := by
  subst hr
  obtain ⟨⟨T, h1, h2⟩, hX, h3⟩ := h
  exact (lapp_T h1 A c b (LX.arg h2 (v := .slice none 0 0) hv hP) hB hm hrl hsz).mono fun e w' ⟨he, hl, hc⟩ => ⟨he, LX.turn h2 hX h3 hl hc⟩
theorem Rot_X (h : LX w0 w g l s t X) (A : Option Addr) (c : Nat) (b : List Int) {P : Nat → Prop} (hv : Kd.V kB 5 w 0 P (.slice A b.length c) b) (hP : ∀ k, P k → k < w0.heap.size ∨ X k) (hB : B b) (hm : b.length ≤ 100000000) (hn : -10 ≤ t.name ∧ t.name ≤ 10000000) {r : Int × DS × WS} (hr : rotL s t b = r) :
    Calls Try.prog 40 #[.pointer (some ⟨l, 0, none⟩), .slice A b.length c] w (XDid w0 w g l X r) := by
  subst hr
  obtain ⟨⟨T, h1, h2⟩, hX, h3⟩ := h
  exact (lrot_T h1 A c b (LX.arg h2 (v := .slice none 0 0) hv hP) hB hm hn).mono fun e w' ⟨he, hl, hc⟩ => ⟨he, LX.turn h2 hX h3 hl hc⟩
theorem Syn_X (h : LX w0 w g l s t X) {r : Int × DS × WS} (hr : synL s t = r) :
    Calls Try.prog 42 #[.pointer (some ⟨l, 0, none⟩)] w (XDid w0 w g l X r) := by
  subst hr
  obtain ⟨⟨T, h1, h2⟩, hX, h3⟩ := h
  exact (lsync_T h1).mono fun e w' ⟨he, hl, hc⟩ => ⟨he, LX.turn h2 hX h3 hl hc⟩
end
/-- A row of a law's argument, as an argument of the log. -/
theorem argV {w0 w : World} {A : Option Addr} {c : Nat} {b : List Int} (hb : Kd.C kB w0 A b.length b) (hc : b.length ≤ c) (h3 : Below w0.heap.size w0 w) : Kd.V kB 5 w 0 (fun k => k < w0.heap.size) (.slice A b.length c) b := Kd.V_below (V_of_C hb hc 0) h3
end Go.Proofs.Ytoimpjmoikjibaa.Wl
namespace Go.Proofs.Ytoimpjmoikjibaa.Wl
open Go Go.RowKit Go.Proofs.Ytoimpjmoikjibaa.IMap Go.Proofs.Ytoimpjmoikjibaa.Pure Go.Proofs.Ytoimpjmoikjibaa.P Go.Proofs.Ytoimpjmoikjibaa.Dk Go.Proofs.YtoimpjmoikjibaaW.PrintWords Go.Proofs.YtoimpjmoikjibaaW.PrintLast Go.Proofs.YtoimpjmoikjibaaW.PrintMore
set_option linter.unusedVariables false
set_option linter.unusedSimpArgs false
/-- Nothing but the row of v has turned. -/
def Own1 (v : Value) (w w' : World) : Prop := w'.heap.size = w.heap.size ∧ Below 0 w w' ∧ ∀ k, v.ownBlock ≠ some k → w'.heap[k]? = w.heap[k]?
theorem Own1.refl (v : Value) (w : World) : Own1 v w w := ⟨rfl, Below.refl _ _, fun _ _ => rfl⟩
theorem R_headg {w : World} {base : Nat} {ok : Nat → Prop} {A : Option Addr} {n c : Nat} {xs : List Int} (h : Kd.R kB 5 w base ok (.slice A n c) xs) (hn : 0 < n) : ∃ g, A = some ⟨g, 0, none⟩ := by
  obtain ⟨hl, _, _⟩ := Kd.R_reads' h
  obtain ⟨inner, hz, ho⟩ := Kd.R_own h
  rcases ho with ⟨hv, h0⟩ | ⟨g, cap, cur, hv, _⟩
  · omega
  · injection hv with h1
    exact ⟨g, h1⟩
set_option maxHeartbeats 4000000 in
set_option maxRecDepth 100000 in
theorem spoil_T (A : Option Addr) (n c : Nat) (xs : List Int) (base : Nat) (ok : Nat → Prop) (w : World) (h : Kd.R kB 5 w base ok (.slice A n c) xs) :
    Calls Try.prog 41 #[.slice A n c] w fun e w' => e = .returned (.tuple #[]) ∧ Own1 (.slice A n c) w w' := by
  have H := Aside0.mk h
  have hmax : n ≤ 9223372036854775807 := by
    have h1 := (Kd.R_reads' h).1
    have h2 := Kd.C_max (Kd.R_reads' h).2.2
    omega
  clear h
  go_enter Try.func41, Try.ntmps41
  go_wp2
  go_loopg [5] n (fun kq v5 w' => ∃ (i : Nat) (ys : List Int), v5 = .int .i64 (i : Int) ∧ i + kq = n ∧ Aside0 (Kd.R kB 5 w' base ok (.slice A n c) ys) ∧ Aside0 (Own1 (.slice A n c) w w'))
  case atStart => exact ⟨0, xs, rfl, by omega, H, ⟨Own1.refl _ _⟩⟩
  case round =>
    clear H
    obtain ⟨i, ys, rfl, hk, HR, HO⟩ := hrel
    by_cases hi : i < n
    · have e1 : decide (i < n) = true := decide_eq_true hi
      obtain ⟨g, rfl⟩ := R_headg HR.out (by omega)
      obtain ⟨hcell, hfz⟩ := Kd.R_celln (0 : Int) HR.out (i : Int) (by omega) (by omega)
      rw [Int.toNat_natCast] at hcell hfz
      obtain ⟨y, hy⟩ : ∃ y : Int, wr.cell? ⟨g, i, none⟩ = some (.int .u8 y) := ⟨_, hcell⟩
      clear hcell
      have HWI : Aside0 (wrap64 ((i : Int) + 1) = ((i + 1 : Nat) : Int)) := ⟨by unfold wrap64; omega⟩
      go_wp2
      go_roundg (gk - 1)
      case measure => omega
      case rel =>
        refine ⟨i + 1, _, (by first | exact congrArg _ HWI.out | rfl | (congr 1; go_num)), by omega, ⟨Kd.R_putn HR.out (i : Int) _⟩, ⟨(by rw [← HO.out.1]; exact World.size_setCell _ _ _), HO.out.2.1.trans (Below.setCell (Below.refl 0 wr) (Nat.zero_le _) _), fun k hk => (Below.heap_setCell wr ⟨g, i, none⟩ _ k (fun e => hk (by rw [e]; rfl))).trans (HO.out.2.2 k hk)⟩⟩
    · have e1 : decide (i < n) = false := decide_eq_false hi
      clear hi
      go_wp2
      go_end0
      exact ⟨rfl, HO.out⟩
/-- Rows in a row, each with a block of its own. -/
def Els (w : World) (lo : Nat) (v : Value) (us : List Value) (rs : List (List Int)) : Prop :=
  us.length = rs.length ∧ us.Pairwise (fun a b => ∀ k, a.ownBlock = some k → b.ownBlock ≠ some k) ∧
  ∀ u ∈ us, ∃ A n c x, u = .slice A n c ∧ Kd.R kB 5 w lo (fun k => some k = u.ownBlock) u x ∧ ∀ k, u.ownBlock = some k → v.ownBlock ≠ some k
set_option maxHeartbeats 4000000 in
set_option maxRecDepth 100000 in
theorem Rec2_T {w : World} {g l : Nat} {T : Nat → Prop} {s : DS} {t : WS} (h : Lg w g l T s t) (hm : ∀ r ∈ t.recs, r.length ≤ 1000000000) (hrl : t.recs.length ≤ 1000000) : Calls Try.prog 38 #[.pointer (some ⟨l, 0, none⟩)] w fun e w' => ∃ v us, e = .returned v ∧ Kd.R (Kd.raw 1) 22 w' w.heap.size (fun _ => True) v (us.map fun u => [u]) ∧ Els w' w.heap.size v us t.recs ∧ Below w.heap.size w w' := by
  obtain ⟨S, U, vb, vr, hI, hS, hU, hl, hT⟩ := h
  have q4 := hI.c4
  obtain ⟨A, c, rfl⟩ := Kd.N_slice hI.recs
  obtain ⟨rs, hrs⟩ : ∃ x, t.recs = x := ⟨_, rfl⟩
  rw [hrs] at q4 hm hrl ⊢
  have hn := hI.recs
  rw [hrs] at hn
  have HN := Aside0.mk hn
  have HM := Aside0.mk hm
  obtain ⟨n, hn⟩ : ∃ x, rs.length = x := ⟨_, rfl⟩
  have HNN := Aside0.mk hn
  rw [hn] at q4 hrl HN
  have HRL := Aside0.mk hrl
  clear hI hS hU hl hT hn hrs hm
  go_enter Try.func38, Try.ntmps38
  go_wp2
  go_loopg [3, 11] n (fun kq v3 v11 w' => ∃ (i : Nat) (us : List Value), v11 = .int .i64 (i : Int) ∧ i + kq = n ∧ Aside0 (Kd.R (Kd.raw 1) 22 w' w.heap.size (fun _ => True) v3 (us.map fun u => [u])) ∧ Aside0 (Els w' w.heap.size v3 us (rs.take i)) ∧ Aside0 (Below w.heap.size w w'))
  case atStart => exact ⟨0, [], rfl, by omega, ⟨Kd.R_nil _ _ _ _ _⟩, ⟨rfl, List.Pairwise.nil, fun u hu => by cases hu⟩, ⟨Below.refl _ _⟩⟩
  case round =>
    obtain ⟨i, us, rfl, hk, HN2, HE2, HB2⟩ := hrel
    by_cases hi : i < n
    · have e1 : decide (i < n) = true := decide_eq_true hi
      have hir : i < rs.length := by rw [HNN.out]; exact hi
      obtain ⟨gb, cap, hAe, _, _, _⟩ := Kd.N_form HN.out (by rw [HNN.out]; omega)
      injection hAe with hAe1 hAe2 hAe3
      subst hAe1
      clear hAe2 hAe3
      obtain ⟨cs, hcl, hK, hcc, hfz⟩ := Kd.N_elem (Kd.N_below HN.out HB2.out) [] (i : Int) (by omega) (by omega)
      obtain ⟨x, hx⟩ : ∃ x, rs.getD (i : Int).toNat [] = x := ⟨_, rfl⟩
      rw [hx] at hK
      have hxe : rs.take (i + 1) = rs.take i ++ [x] := by
        rw [← hx, Int.toNat_natCast, List.take_succ_eq_append_getElem hir, List.getD_eq_getElem?_getD, List.getElem?_eq_getElem hir]
        rfl
      have hxm : x.length ≤ 1000000000 := by
        rw [← hx, Int.toNat_natCast, List.getD_eq_getElem?_getD, List.getElem?_eq_getElem hir]
        exact HM.out _ (List.getElem_mem hir)
      obtain ⟨A1, c1, rfl, hc1, hF1⟩ := Kd.FK_slice_open hK
      have hce : wr.cell? ⟨gb, i, none⟩ = some (.slice A1 x.length c1) := by
        have h9 := hcc 0 _ rfl
        rw [Int.toNat_natCast, show i * kBs.sz + 0 = i from by show i * 1 + 0 = i; omega] at h9
        exact h9
      have KC := Aside0.mk (Clone_T A1 c1 x wr (Kd.F_now hF1) hc1 (by omega))
      have HXE := Aside0.mk hxe
      have HWI : Aside0 (wrap64 ((i : Int) + 1) = ((i + 1 : Nat) : Int)) := ⟨by have := HRL.out; unfold wrap64; omega⟩
      have HLE : Aside0 ((us.map fun u => [u]).length ≤ 1000000) := ⟨by have := HRL.out; have := HE2.out.1; rw [List.length_map, this, List.length_take]; omega⟩
      obtain ⟨nx, hnx⟩ : ∃ n, x.length = n := ⟨_, rfl⟩
      rw [hnx] at hce KC
      have HNX := Aside0.mk hnx
      clear hcl hK hcc hfz hx hxe hxm hc1 hF1 hir hnx
      go_wp2_with (fail)
      refine KC.out.mono ?_
      rintro e w5 ⟨v5, rfl, hv5, hb5⟩
      obtain ⟨A5, c5, rfl⟩ := Kd.R_slice hv5
      rw [HNX.out] at hv5 ⊢
      have HV5 := Aside0.mk hv5
      have HB5 := Aside0.mk hb5
      have HB6 := Aside0.mk (below_step HB2.out hb5)
      have HN5 := Aside0.mk (Kd.R_below HN2.out hb5)
      clear hv5 hb5 KC hce
      have HRL2 : Aside0 (((us.map fun u => [u]).length + 1) * 24 ≤ 140737488355328) := ⟨by have := HLE.out; omega⟩
      go_wp2_with (first | ((with_reducible refine gate_builtin (b := .append) (xs := #[.tmp 15, .tmp 18]) rfl ?_); at_builtin; refine Kd.R_append (Kd.raw 1) (w0 := w) w.heap.size rfl (.tmp 15) (.tmp 18) 57 22 (.slice none 0 0) 24 rfl Try.underlying57 infoBS rfl (by decide) (by decide) u3 (us.map fun u => [u]) [.slice A5 nx c5] [.slice A5 nx c5] (fun _ => True) (fun _ => False) rfl rfl ⟨rfl, rfl, fun u hu => (by rw [List.mem_singleton.1 hu]; rfl)⟩ (fun _ hk => hk.elim) (fun _ _ => trivial) HN5.out HB6.out HB6.out.size HRL2.out ?_; intro v2 w2 hN hB hg hat; refine Halt.out ?_))
      unfold Halt
      have hmap : (us.map fun u => [u]) ++ [[Value.slice A5 nx c5]] = (us ++ [Value.slice A5 nx c5]).map fun u => [u] := by simp
      rw [hmap] at hN
      have HN3 := Aside0.mk hN
      have HB3 := Aside0.mk hB
      have hlt3 : ∀ k, u3.ownBlock = some k → k < wr.heap.size := Kd.R_lt HN2.out
      have HE3 : Aside0 (Els w2 w.heap.size v2 (us ++ [.slice A5 nx c5]) (rs.take (i + 1))) := ⟨by
        obtain ⟨hl2, hp2, he2⟩ := HE2.out
        have hs5 := HB5.out.size
        refine ⟨by rw [HXE.out, List.length_append, List.length_append, hl2]; rfl, List.pairwise_append.2 ⟨hp2, List.pairwise_singleton _ _, fun a ha b hb k hak hbk => ?_⟩, fun u hu => ?_⟩
        · rw [List.mem_singleton.1 hb] at hbk
          obtain ⟨_, _, _, _, _, hr, _⟩ := he2 a ha
          have h1 := Kd.R_lt hr k hak
          have h2 := Kd.R_base HV5.out k hbk
          omega
        · rcases List.mem_append.1 hu with hu | hu
          · obtain ⟨Au, nu, cu, xu, hue, hr, hne⟩ := he2 u hu
            refine ⟨Au, nu, cu, xu, hue, ?_, fun k hk hv => ?_⟩
            · refine Kd.R_step hr (fun k hk hlt => ?_)
              rw [hg.block k (by omega) (fun e => hne k hk.symm e.symm), HB5.out.block k hlt]
            · rcases hat with hat | ⟨b, hbv, hbs⟩
              · exact hne k hk (hat ▸ hv)
              · have h1 := Kd.R_lt hr k hk
                rw [hbv] at hv
                injection hv with hv
                omega
          · rw [List.mem_singleton.1 hu]
            have hr5 := Kd.R_tight rfl HV5.out
            refine ⟨A5, nx, c5, x, rfl, ?_, fun k hk hv => ?_⟩
            · refine Kd.R_lower (Kd.R_step hr5 (fun k hk hlt => hg.block k hlt (fun e => ?_))) HB2.out.size
              have h1 := hlt3 k e.symm
              have h2 := Kd.R_base HV5.out k hk.symm
              omega
            · have h1 := Kd.R_lt HV5.out k hk
              have h2 := Kd.R_base HV5.out k hk
              rcases hat with hat | ⟨b, hbv, hbs⟩
              · have h3 := hlt3 k (hat ▸ hv)
                omega
              · rw [hbv] at hv
                injection hv with hv
                omega⟩
      clear hN hB hg hat hmap hlt3
      go_wp2
      go_roundg (gk - 1)
      case measure => omega
      case rel => exact ⟨i + 1, _, (by first | exact congrArg _ HWI.out | rfl | (congr 1; go_num)), by omega, HN3, HE3, HB3⟩
    · have e1 : decide (i < n) = false := decide_eq_false hi
      have hin : rs.take i = rs := List.take_of_length_le (by rw [HNN.out]; omega)
      rw [hin] at HE2
      clear hin hi
      obtain ⟨A3, c3, rfl, _⟩ := Kd.R_reads HN2.out
      go_wp2
      go_ret
      exact ⟨_, us, rfl, HN2.out, HE2.out, HB2.out⟩
end Go.Proofs.Ytoimpjmoikjibaa.Wl
