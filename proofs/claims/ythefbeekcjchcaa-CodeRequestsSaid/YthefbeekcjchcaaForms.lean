/- The forms of catalogues, requests and plans, and their readers. -/
import Derived.Test.YthefbeekcjchcaaPure0
import Derived.Test.YthefbeekcjchcaaWWords
namespace Go.Proofs.Ythefbeekcjchcaa.P
open Go Go.RowKit Go.Proofs.YthefbeekcjchcaaW.PrintWords
set_option linter.unusedVariables false
set_option linter.unusedSimpArgs false
abbrev Ver : Type := Int × Int × Int × ByteArray
abbrev Cmp : Type := Int × Ver
abbrev Rng : Type := List (List Cmp)
abbrev Nd : Type := Int × Rng
abbrev Rel : Type := Ver × Int × List Nd
abbrev Svc : Type := ByteArray × List Rel
abbrev Req : Type := List Nd × List Int
abbrev Stp : Type := Int × Int
abbrev Pln : Type := List Int × List Int × List Stp × List Stp
def noVer : Ver := (0, 0, 0, ByteArray.empty)
def tText (s : ByteArray) : List Tok := rawT (bytesOf s)
def tVer (v : Ver) : List Tok := .num v.1 :: .num v.2.1 :: .num v.2.2.1 :: tText v.2.2.2
def tCmp (c : Cmp) : List Tok := .num c.1 :: (if c.1 = 0 then (if c.2 = noVer then [] else [.bad]) else tVer c.2)
def tRng (r : Rng) : List Tok := listT (listT tCmp) r
def tNd (n : Nd) : List Tok := .num n.1 :: tRng n.2
def tRel (r : Rel) : List Tok := tVer r.1 ++ .num r.2.1 :: listT tNd r.2.2
def tSvc (s : Svc) : List Tok := tText s.1 ++ listT tRel s.2
def tCat (c : List Svc) : List Tok := listT tSvc c
def tNum (n : Int) : List Tok := [.num n]
def tReq (q : Req) : List Tok := listT tNd q.1 ++ listT tNum q.2
def tStp (s : Stp) : List Tok := [.num s.1, .num s.2]
def tPln (p : Pln) : List Tok := listT tNum p.1 ++ (listT tNum p.2.1 ++ (listT tStp p.2.2.1 ++ listT tStp p.2.2.2))
def rText : Rdr ByteArray := rmap strOfNums rraw
def rVer : Rdr Ver := rbind rnum fun a => rmap (fun b => (a, b)) (rbind rnum fun b => rmap (fun c => (b, c)) (rbind rnum fun c => rmap (fun d => (c, d)) rText))
def rCmp : Rdr Cmp := rbind rnum fun o => rmap (fun v => (o, v)) (if o = 0 then rpure noVer else rVer)
def rRng : Rdr Rng := rlist (rlist rCmp)
def rNd : Rdr Nd := rbind rnum fun s => rmap (fun r => (s, r)) rRng
def rRel : Rdr Rel := rbind rVer fun v => rmap (fun x => (v, x)) (rbind rnum fun l => rmap (fun x => (l, x)) (rlist rNd))
def rSvc : Rdr Svc := rbind rText fun n => rmap (fun x => (n, x)) (rlist rRel)
def rCat : Rdr (List Svc) := rlist rSvc
def rReq : Rdr Req := rbind (rlist rNd) fun p => rmap (fun m => (p, m)) (rlist rnum)
def rStp : Rdr Stp := rbind rnum fun a => rmap (fun b => (a, b)) rnum
def rPln : Rdr Pln := rbind (rlist rnum) fun a => rmap (fun x => (a, x)) (rbind (rlist rnum) fun b => rmap (fun x => (b, x)) (rbind (rlist rStp) fun c => rmap (fun x => (c, x)) (rlist rStp)))
theorem str_bytes (s : ByteArray) : strOfNums (bytesOf s) = s := by
  apply ByteArray.ext
  apply Array.ext'
  simp only [strOfNums, bytesOf, List.map_map]
  conv => rhs; rw [← List.map_id s.data.toList]
  apply List.map_congr_left
  intro b _
  simp [UInt8.ofNat_toNat]
theorem bytes_str {l : List Int} (h : Bytes l) : bytesOf (strOfNums l) = l := by
  simp only [strOfNums, bytesOf, List.map_map]
  conv => rhs; rw [← List.map_id l]
  apply List.map_congr_left
  intro b hb
  have := h b hb
  simp [UInt8.toNat_ofNat]
  omega
theorem raw_bytes {bs l r : List Int} (hB : Bytes bs) (h : rraw bs = .ok (l, r)) : Bytes l := by
  obtain ⟨h1, h2⟩ := fit_raw.from_ bs l r hB h
  rw [okT_raw] at h1
  rw [outT_raw h1, List.append_assoc] at h2
  rw [h2] at hB
  exact bytes_left (bytes_right hB)
theorem fit_text : Fit rText tText := fit_raw.iso strOfNums bytesOf str_bytes (fun bs x r hB h => bytes_str (raw_bytes hB h))
theorem fit_ver : Fit rVer tVer :=
  fit_num.bind (m := fun a b => (a, b)) (a := Prod.fst) (b := Prod.snd) (fun _ => fit_num.bind (m := fun a b => (a, b)) (a := Prod.fst) (b := Prod.snd) (fun _ => fit_num.bind (m := fun a b => (a, b)) (a := Prod.fst) (b := Prod.snd) (k := fun z => .num z.1 :: tText z.2) (fun _ => fit_text) (fun _ => rfl) (fun _ _ => rfl) (fun _ _ => rfl) (fun _ => rfl)) (k := fun z => .num z.1 :: .num z.2.1 :: tText z.2.2) (fun _ => rfl) (fun _ _ => rfl) (fun _ _ => rfl) (fun _ => rfl)) (fun _ => rfl) (fun _ _ => rfl) (fun _ _ => rfl) (fun _ => rfl)
theorem fit_cmp : Fit rCmp tCmp :=
  fit_num.bind (m := fun a b => (a, b)) (a := Prod.fst) (b := Prod.snd) (g := fun o v => if o = 0 then (if v = noVer then [] else [.bad]) else tVer v) (fun o => by
    by_cases h : o = 0
    · simp only [if_pos h]; exact fit_known noVer
    · simp only [if_neg h]; exact fit_ver) (fun _ => rfl) (fun _ _ => rfl) (fun _ _ => rfl) (fun _ => rfl)
theorem starts_num : Starts tNum := fun n => ⟨n, [], rfl⟩
theorem starts_cmp : Starts tCmp := fun n => ⟨_, _, rfl⟩
theorem starts_list {α : Type} (f : α → List Tok) : Starts (listT f) := fun n => ⟨_, _, rfl⟩
theorem starts_nd : Starts tNd := fun n => ⟨_, _, rfl⟩
theorem starts_rel : Starts tRel := fun n => ⟨_, _, rfl⟩
theorem starts_svc : Starts tSvc := fun n => ⟨_, _, rfl⟩
theorem starts_stp : Starts tStp := fun n => ⟨_, _, rfl⟩
theorem fit_rng : Fit rRng tRng := fit_list (fit_list fit_cmp starts_cmp) (starts_list _)
theorem fit_nd : Fit rNd tNd := fit_num.bind (m := fun a b => (a, b)) (a := Prod.fst) (b := Prod.snd) (fun _ => fit_rng) (fun _ => rfl) (fun _ _ => rfl) (fun _ _ => rfl) (fun _ => rfl)
theorem fit_rel : Fit rRel tRel :=
  fit_ver.bind (m := fun a b => (a, b)) (a := Prod.fst) (b := Prod.snd) (fun _ => fit_num.bind (m := fun a b => (a, b)) (a := Prod.fst) (b := Prod.snd) (k := fun z => .num z.1 :: listT tNd z.2) (fun _ => fit_list fit_nd starts_nd) (fun _ => rfl) (fun _ _ => rfl) (fun _ _ => rfl) (fun _ => rfl)) (fun _ => rfl) (fun _ _ => rfl) (fun _ _ => rfl) (fun _ => rfl)
theorem fit_svc : Fit rSvc tSvc := fit_text.bind (m := fun a b => (a, b)) (a := Prod.fst) (b := Prod.snd) (fun _ => fit_list fit_rel starts_rel) (fun _ => rfl) (fun _ _ => rfl) (fun _ _ => rfl) (fun _ => rfl)
theorem fit_cat : Fit rCat tCat := fit_list fit_svc starts_svc
theorem fit_nums : Fit (rlist rnum) (listT tNum) := fit_list fit_num starts_num
theorem fit_req : Fit rReq tReq := (fit_list fit_nd starts_nd).bind (m := fun a b => (a, b)) (a := Prod.fst) (b := Prod.snd) (fun _ => fit_nums) (fun _ => rfl) (fun _ _ => rfl) (fun _ _ => rfl) (fun _ => rfl)
theorem fit_stp : Fit rStp tStp := fit_num.bind (m := fun a b => (a, b)) (a := Prod.fst) (b := Prod.snd) (fun _ => fit_num) (fun _ => rfl) (fun _ _ => rfl) (fun _ _ => rfl) (fun _ => rfl)
theorem fit_stps : Fit (rlist rStp) (listT tStp) := fit_list fit_stp starts_stp
theorem fit_pln : Fit rPln tPln :=
  fit_nums.bind (m := fun a b => (a, b)) (a := Prod.fst) (b := Prod.snd) (fun _ => fit_nums.bind (m := fun a b => (a, b)) (a := Prod.fst) (b := Prod.snd) (fun _ => fit_stps.bind (m := fun a b => (a, b)) (a := Prod.fst) (b := Prod.snd) (k := fun z => listT tStp z.1 ++ listT tStp z.2) (fun _ => fit_stps) (fun _ => rfl) (fun _ _ => rfl) (fun _ _ => rfl) (fun _ => rfl)) (k := fun z => listT tNum z.1 ++ (listT tStp z.2.1 ++ listT tStp z.2.2)) (fun _ => rfl) (fun _ _ => rfl) (fun _ _ => rfl) (fun _ => rfl)) (fun _ => rfl) (fun _ _ => rfl) (fun _ _ => rfl) (fun _ => rfl)
end Go.Proofs.Ythefbeekcjchcaa.P
