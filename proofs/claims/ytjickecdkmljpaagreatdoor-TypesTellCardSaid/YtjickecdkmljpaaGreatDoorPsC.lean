/-
  PROVED HERE: the program's parser: is the token one of a row? Can it begin a type? the program's parser: lists (things with commas between them). the program's parser: items (things with semicolons between them). No condition beyond the lemmas' own premises.
-/
import Derived.Test.YtjickecdkmljpaaGreatDoorPsTk
import Derived.Test.YtjickecdkmljpaaGreatDoorPsBox
import Derived.Test.YtjickecdkmljpaaGreatDoorPsA
namespace Go.Proofs.YtjickecdkmljpaaGreatDoor
open Go.RowKit

/-- A row of texts, none of them many. -/
def StrsV (w : World) (v : Value) (l : List ByteArray) : Prop := ∃ g cap, v = .slice (some ⟨g, 0, none⟩) l.length cap ∧ g < w.heap.size ∧ l.length ≤ 100 ∧ ∀ k, k < l.length → w.cell? ⟨g, k, none⟩ = some (.string (l.getD k ByteArray.empty))
theorem StrsV.below {w w' : World} {v : Value} {l : List ByteArray} (h : StrsV w v l) (hb : Below w.heap.size w w') : StrsV w' v l := by
 obtain ⟨g, cap, rfl, h1, h2, h3⟩ := h;exact ⟨g, cap, rfl, Nat.lt_of_lt_of_le h1 hb.size, h2, fun k hk => (hb.cell (p := ⟨g, k, none⟩) h1).trans (h3 k hk)⟩
theorem any_hit {l : List ByteArray} {p : ByteArray → Bool} {k : Nat} (hk : k < l.length) (h : p (l.getD k ByteArray.empty) = true) : l.any p = true := by
 rw [List.getD_eq_getElem?_getD, List.getElem?_eq_getElem hk] at h;exact List.any_eq_true.2 ⟨l[k], List.getElem_mem hk, h⟩
theorem any_miss {l : List ByteArray} {p : ByteArray → Bool} {k : Nat} (hk : k < l.length) (h0 : (l.take k).any p = false) (h : p (l.getD k ByteArray.empty) = false) : (l.take (k + 1)).any p = false := by
 rw [List.getD_eq_getElem?_getD, List.getElem?_eq_getElem hk] at h;rw [List.take_succ_eq_append_getElem hk, List.any_append, h0]
 simpa using h
theorem any_none {l : List ByteArray} {p : ByteArray → Bool} (h : (l.take l.length).any p = false) : l.any p = false := by rwa [List.take_length] at h

section
variable {N p : Nat} {w : World} {X : Ps.Src} {S : ByteArray} {s : Ps.St} {tv nv : Value} {D : List (Ps.Nd × Value)}
def IdxPost (any : Bool) (w : World) (e : Ending) (w' : World) : Prop := (∃ n : Int, e = .returned (.int .i64 n) ∧ decide (0 ≤ n) = any) ∧ Below w.heap.size w w'

set_option maxRecDepth 100000 in
set_option maxHeartbeats 2000000 in
theorem index_is (h : PSt N p w X S s tv nv D) (v : Value) (l : List ByteArray) (hl : StrsV w v l) :
  Calls Tryz.prog 127 #[v, .func (.func 96) #[.pointer (some ⟨p, 0, none⟩)] #[]] w (IdxPost (l.any fun x => Ps.isK X s (by_ x)) w) := by
 obtain ⟨g, cap, rfl, hg, hlen, hcell⟩ := hl;have Hcell := zh hcell;have HS := zh h;clear hcell h
 go_enter Tryz.func127, Tryz.ntmps127
 go_wp2
 go_loopw [8] (fun i wr => Hid (Below w.heap.size w wr) ∧ ∃ k : Nat, k ≤ l.length ∧ i = .int .i64 k ∧ Hid ((l.take k).any (fun x => Ps.isK X s (by_ x)) = false)) (fun i _ => l.length - (intOf i).toNat)
 case atStart => exact ⟨zh (Below.refl _ _), 0, by omega, rfl, zh (by simp)⟩
 case round =>
  obtain ⟨Hbel, k, hk, rfl, Hk⟩ := hrel
  by_cases hkl : k < l.length
  ·have ck := (Hbel.out.cell (p := ⟨g, k, none⟩) hg).trans (Hcell.out k hkl);have hgl : g < wr.heap.size := Nat.lt_of_lt_of_le hg Hbel.out.size
   have hit := zh (fun h : Ps.isK X s (by_ (l.getD k ByteArray.empty)) = true => any_hit (p := fun x => Ps.isK X s (by_ x)) hkl h);have miss := zh (fun h : Ps.isK X s (by_ (l.getD k ByteArray.empty)) = false => any_miss (p := fun x => Ps.isK X s (by_ x)) hkl Hk.out h);generalize l.getD k ByteArray.empty = x at *;have b1 : (0 : Int) ≤ (k : Int) := by omega
   have b2 : (k : Int) < (l.length : Int) := by omega
   cases hp : Ps.isK X s (by_ x) with
   | true =>
    have hh := zh (hit.out hp);have HC := zh (spis_is (HS.out.below Hbel.out) x true (zh hp));clear hp;go_wp2_with (refine HC.out.mono ?_; rintro e w5 ⟨rfl, hb5⟩; have HB5 := zh hb5; clear hb5)
    go_returns
    exact ⟨⟨k, rfl, by rw [hh.out]; simp⟩, Hbel.out.trans (HB5.out.mono Hbel.out.size)⟩
   | false =>
    have hh := zh (miss.out hp);have HC := zh (spis_is (HS.out.below Hbel.out) x false (zh hp));clear hp;go_wp2_with (refine HC.out.mono ?_; rintro e w5 ⟨rfl, hb5⟩; have HB5 := zh hb5; clear hb5)
    go_roundw
    case rel => exact ⟨zh (Hbel.out.trans (HB5.out.mono Hbel.out.size)), k + 1, by omega, by go_num, hh⟩
    case measure => simp [intOf]; omega
  ·obtain rfl : k = l.length := by omega
   have hh := zh (any_none Hk.out);go_wp2
   go_returns
   exact ⟨⟨-1, rfl, by rw [hh.out]; rfl⟩, Hbel.out⟩

set_option maxRecDepth 100000 in
theorem contains_is (h : PSt N p w X S s tv nv D) (v : Value) (l : List ByteArray) (hl : StrsV w v l) :
  Calls Tryz.prog 69 #[v, .func (.func 96) #[.pointer (some ⟨p, 0, none⟩)] #[]] w fun e w' => e = .returned (.bool (l.any fun x => Ps.isK X s (by_ x))) ∧ Below w.heap.size w w' := by
 have HI := zh (index_is h v l hl);obtain ⟨g, cap, rfl, _, _, _⟩ := hl;clear h
 go_enter Tryz.func69, Tryz.ntmps69
 go_wp2_with (go_at_call 127; refine HI.out.mono ?_; rintro e w5 ⟨⟨n, rfl, hn⟩, hb5⟩; have HB5 := zh hb5; have Hn := zh hn; clear hb5 hn)
 go_returns
 rw [← Hn.out];exact ⟨by simp, HB5.out⟩
set_option maxRecDepth 100000 in
theorem spany_any (h : PSt N p w X S s tv nv D) (v : Value) (l : List ByteArray) (hl : StrsV w v l) :
  Calls Tryz.prog 199 #[.pointer (some ⟨p, 0, none⟩), v] w fun e w' => e = .returned (.bool (l.any fun x => Ps.isK X s (by_ x))) ∧ Below w.heap.size w w' := by
 have HI := zh (contains_is h v l hl);obtain ⟨g, cap, rfl, _, _, _⟩ := hl;clear h
 go_enter Tryz.func199, Tryz.ntmps199
 go_wp2_with fail
 refine HI.out.mono ?_;rintro e w5 ⟨rfl, hb5⟩;have HB5 := zh hb5;clear hb5;go_wp2
 go_returns
 exact ⟨rfl, HB5.out⟩
theorem StrsV.new (w : World) (l : List ByteArray) (hl : l.length ≤ 100) (t : TypeId) : StrsV (w.alloc (.cells (l.map Value.string).toArray t)) (.slice (some ⟨w.heap.size, 0, none⟩) l.length l.length) l := by
 refine ⟨_, _, rfl, by simp, hl, fun k hk => ?_⟩;rw [blk_cell (blk_new _ _) k];simp [hk, List.getD_eq_getElem?_getD]
def b_int : ByteArray := ⟨#[105, 110, 116]⟩
def b_bool : ByteArray := ⟨#[98, 111, 111, 108]⟩
def b_chan : ByteArray := ⟨#[99, 104, 97, 110]⟩
def b_func : ByteArray := ⟨#[102, 117, 110, 99]⟩
def b_star : ByteArray := ⟨#[42]⟩
set_option maxRecDepth 100000 in
set_option maxHeartbeats 1000000 in
theorem spbegins_any (h : PSt N p w X S s tv nv D) (b : Bool) (hbg : Hid (Ps.begins X s = b)) :
  Calls Tryz.prog 155 #[.pointer (some ⟨p, 0, none⟩)] w fun e w' => e = .returned (.bool b) ∧ Below w.heap.size w w' := by
 obtain ⟨c, hc⟩ : ∃ c, Ps.anyK X s [Ps.k_int, Ps.k_bool, Ps.k_chan, Ps.k_func, Ps.k_star] = c := ⟨_, rfl⟩;have HB : Hid (b = (c || (Ps.now X s).kind == 1)) := zh (by rw [← hbg.out]; unfold Ps.begins Ps.isName; rw [hc]);have HP := zh (spany_any (h.below ((Below.refl w.heap.size w).alloc (Nat.le_refl _) (.cells #[.string b_int, .string b_bool, .string b_chan, .string b_func, .string b_star] 9))) (.slice (some ⟨w.heap.size, 0, none⟩) 5 5) [b_int, b_bool, b_chan, b_func, b_star] (StrsV.new w [b_int, b_bool, b_chan, b_func, b_star] (by decide) 9));have HC : Hid (([b_int, b_bool, b_chan, b_func, b_star].any fun x => Ps.isK X s (by_ x)) = c) := zh (by rw [← hc]; rfl);rw [HC.out] at HP;have HS := zh h;clear h hc HC hbg
 cases c with
 | true =>
  go_enter Tryz.func155, Tryz.ntmps155
  go_wp2_with fail
  refine HP.out.mono ?_;rintro e w1 ⟨rfl, hb⟩;have HB1 := zh (((Below.refl w.heap.size w).alloc (Nat.le_refl _) _).trans (hb.mono (by simp)));clear hb;go_wp2
  go_returns
  exact ⟨by rw [HB.out]; rfl, HB1.out⟩
 | false =>
  go_enter Tryz.func155, Tryz.ntmps155
  go_wp2_with fail
  refine HP.out.mono ?_;rintro e w1 ⟨rfl, hb⟩;have HB1 := zh (((Below.refl w.heap.size w).alloc (Nat.le_refl _) _).trans (hb.mono (by simp)));clear hb;go_wp2_with fail
  refine (spnow_any (HS.out.below HB1.out)).mono ?_;rintro e w2 ⟨rfl, hb⟩;have HB2 := zh (HB1.out.trans (hb.mono HB1.out.size));clear hb;unfold tokVal tokCells;have hf0 := tok_fld0;generalize Ps.now X s = t at *;go_wp2
  go_returns
  exact ⟨by rw [HB.out]; rfl, HB2.out⟩
end
end Go.Proofs.YtjickecdkmljpaaGreatDoor
namespace Go.Proofs.YtjickecdkmljpaaGreatDoor
open Go.RowKit

/-- What a call leaves that answers a row of numbers. -/
def OutL (N p : Nat) (X : Ps.Src) (S : ByteArray) (w : World) (tv nv : Value) (D : List (Ps.Nd × Value)) (r : Ps.Res) (e : Ending) (w' : World) : Prop :=
 match r with
 | .out => True
 | .bad c q => e = thrownS c q ∧ Below N w w'
 | .ok v s' => ∃ u nv' E, e = .returned u ∧ PSt N p w' X S s' tv nv' (D ++ E) ∧ Mv N p w nv w' nv' ∧ Fresh w.heap.size E ∧ Kd N w w' (D ++ E) u v ∧ v.length ≤ 1000000
section
variable {N p : Nat} {w wk w2 : World} {X : Ps.Src} {S : ByteArray} {s sk : Ps.St} {tv nv nk : Value} {D E : List (Ps.Nd × Value)}
theorem OutL.parts {r : Ps.Res} {e : Ending} {w' : World} (h : OutL N p X S w tv nv D r e w') (hne : r ≠ .out) :
  (∃ c q, r = .bad c q ∧ e = thrownS c q ∧ Below N w w') ∨ (∃ v s' u nv' E, r = .ok v s' ∧ e = .returned u ∧ PSt N p w' X S s' tv nv' (D ++ E) ∧ Mv N p w nv w' nv' ∧ Fresh w.heap.size E ∧ Kd N w w' (D ++ E) u v ∧ v.length ≤ 1000000) := by
 cases r with
 | out => exact absurd rfl hne
 | bad c q => exact .inl ⟨c, q, rfl, h.1, h.2⟩
 | ok v s' =>
  obtain ⟨u, nv', E, h1, h2, h3, h4, h5⟩ := h;exact .inr ⟨v, s', u, nv', E, rfl, h1, h2, h3, h4, h5⟩
theorem Go.badL {c : Int} {q : Nat} {r : Ps.Res} (h : Go N p X S w tv nv D wk sk nk E) (hb : Below N wk w2) (hr : r = .bad c q) : OutL N p X S w tv nv D r (thrownS c q) w2 := by
 subst hr;exact ⟨rfl, h.mv.below.trans hb⟩
theorem Go.outL {v : List Nat} {u : Value} {r : Ps.Res} (h : Go N p X S w tv nv D wk sk nk E) (hk : Kd N w wk (D ++ E) u v) (hl : v.length ≤ 1000000) (hr : r = .ok v sk) : OutL N p X S w tv nv D r (.returned u) wk := by
 subst hr;exact ⟨u, nk, E, rfl, h.st, h.mv, h.fr, hk, hl⟩
theorem enter_ne (X : Ps.Src) (x : List UInt8) (s : Ps.St) : Ps.enter X x s ≠ .out := by
 unfold Ps.enter Ps.fail Ps.take Ps.fail
 split
 ·simp
 ·split <;> simp [Ps.Res.bind]
theorem leave_ne (X : Ps.Src) (x : List UInt8) (s : Ps.St) : Ps.leave X x s ≠ .out := by
 unfold Ps.leave Ps.take Ps.fail
 split <;> simp [Ps.Res.bind]
/-- What a loop over a list still has to do. -/
def LoopR (X : Ps.Src) (x : List UInt8) (lp : Nat → List Nat → Ps.St → Ps.Res) (m : Nat) (acc : List Nat) (s : Ps.St) : Ps.Res := if Ps.isK X s x = true then .ok acc s else lp m acc s
/-- The end of a list. -/
def FinL (X : Ps.Src) (x : List UInt8) (l : List Nat) (s : Ps.St) : Ps.Res := (Ps.leave X x s).bind fun _ s3 => .ok l s3

set_option maxRecDepth 100000 in
set_option maxHeartbeats 2000000 in
theorem splist_any (n : Nat) (hn : n ≤ 1000000) (fid : FuncId) (hc : ∀ args w, (callFunc fid args).run Tryz.prog w = .ok (.enter fid args) w) (lp : Nat → List Nat → Ps.St → Ps.Res) (one : Nat → Ps.St → Ps.Res)
  (h0 : ∀ a s, lp 0 a s = .out) (hs : ∀ m a s, lp (m + 1) a s = Ps.listL X (one m) (lp m) a s) (hone : ∀ m s, Ps.One (one m s)) (hd1 : ∀ m s, Ps.Dp (one m s) s.deep) (hok : ∀ m, m < n → POk X S fid oneV (one m))
  (h : PSt N p w X S s tv nv D) (hne : Ps.list X (lp n []) s ≠ .out) :
  Calls Tryz.prog 153 #[.pointer (some ⟨p, 0, none⟩), .func (.func fid) #[.pointer (some ⟨p, 0, none⟩)] #[]] w (OutL N p X S w tv nv D (Ps.list X (lp n []) s)) := by
 have HG := zh (Go.start h);have HNE := zh hne;have H0 := zh h0;have HSS := zh hs;have HONE := zh hone;have HD1 := zh hd1;have HOK := zh hok;have hd0 := h.d0;clear h hne h0 hs hone hd1 hok
 go_enter Tryz.func153, Tryz.ntmps153
 go_wp2_with fail
 refine (spenter_any HG.out.st ⟨#[40]⟩).mono ?_;rintro e w1 hq;rcases hq.parts (enter_ne _ _ _) with ⟨c, q, hr, rfl, hb⟩ | ⟨v, s1, n1, E1, hr, rfl, h1, h2, h3⟩
 ·have HE : Hid (OutL N p X S w tv nv D (Ps.list X (lp n []) s) (thrownS c q) w1) := zh (HG.out.badL hb (by have hr2 : Ps.enter X Ps.k_lp s = .bad c q := hr; simp [Ps.list, hr2, Ps.Res.bind]));clear hq hr hb
  unfold thrownS;go_wp2
  exact ⟨rfl, HE.out⟩
 have hr2 : Ps.enter X Ps.k_lp s = .ok v s1 := hr;have hdeep : s1.deep = s.deep + 1 := Ps.Dp.enter X _ s v s1 hr2;have HPL : Hid (Ps.list X (lp n []) s = (lp n [] s1).bind (FinL X Ps.k_rp)) := zh (by simp only [Ps.list, hr2, Ps.Res.bind]; rfl);have hnz : n ≠ 0 := by rintro rfl; exact HNE.out (by rw [HPL.out, H0.out]; rfl)
 have HPR : Hid (Ps.list X (lp n []) s = (LoopR X Ps.k_rp lp n [] s1).bind (FinL X Ps.k_rp)) := zh (by
  rw [HPL.out];unfold LoopR;obtain ⟨m, rfl⟩ : ∃ m, n = m + 1 := ⟨n - 1, by omega⟩
  split
  ·rename_i hb
   rw [HSS.out, Ps.listL, if_pos hb]
  ·rfl)
 replace HG := zh (HG.out.then h1 h2 h3);clear hq hr hr2 h1 h2 h3 HPL;have hql := HG.out.st.lt;have HB1 := HG;unfold oneV;go_wp2_with fail
 go_loopg [5] n (fun m u wr => ∃ (acc : List Nat) (sk : Ps.St) (nk : Value) (E : List (Ps.Nd × Value)), Hid (Go N p X S w tv nv D wr sk nk E) ∧ Hid (Kd N w wr (D ++ E) u acc) ∧ acc.length + m = n ∧ Hid (sk.deep = s.deep + 1) ∧ Hid (Ps.list X (lp n []) s = (LoopR X Ps.k_rp lp m acc sk).bind (FinL X Ps.k_rp)))
 case atStart => exact ⟨[], s1, n1, _, HG, zh (Kd.nil _ _ _ _), by simp, zh hdeep, HPR⟩
 case round =>
  clear HG HPR HB1;obtain ⟨acc, sk, nk, E, HG, HK, hacc, HDP, HPR⟩ := hrel
  cases hb : Ps.isK X sk Ps.k_rp with
  | true =>
   have HI := zh (spis_is HG.out.st ⟨#[41]⟩ true (zh hb));have HPE : Hid (Ps.list X (lp n []) s = FinL X Ps.k_rp acc sk) := zh (by rw [HPR.out]; unfold LoopR; rw [if_pos hb]; rfl);clear hb HPR;go_wp2_with fail
   refine HI.out.mono ?_;rintro e w2 ⟨rfl, hb⟩;replace HK := zh (HK.out.below hb);replace HG := zh (HG.out.new hb);clear hb HI;go_wp2_with fail
   refine (spleave_any HG.out.st ⟨#[41]⟩ (by rw [HDP.out]; omega)).mono ?_;rintro e w3 hq;rcases hq.parts (leave_ne _ _ _) with ⟨c, q, hr, rfl, hb⟩ | ⟨v, s3, n3, E3, hr, rfl, h1, h2, h3⟩
   ·have HE : Hid (OutL N p X S w tv nv D (Ps.list X (lp n []) s) (thrownS c q) w3) := zh (HG.out.badL hb (by have hr2 : Ps.leave X Ps.k_rp sk = .bad c q := hr; rw [HPE.out]; unfold FinL; rw [hr2]; rfl));clear hq hr hb
    unfold thrownS;go_wp2
    exact ⟨rfl, HE.out⟩
   ·have HE : Hid (OutL N p X S w tv nv D (Ps.list X (lp n []) s) (.returned u5) w3) := zh ((HG.out.then h1 h2 h3).outL (HK.out.mv HG.out h2 h3) (by omega) (by have hr2 : Ps.leave X Ps.k_rp sk = .ok v s3 := hr; rw [HPE.out]; unfold FinL; rw [hr2]; rfl));clear hq hr h1 h2 h3
    unfold unitV;go_wp2
    go_returns
    exact HE.out
  | false =>
   have HI := zh (spis_is HG.out.st ⟨#[41]⟩ false (zh hb));obtain ⟨m, rfl⟩ : ∃ m, gk = m + 1 := by
    cases gk with
    | zero => exact absurd (by rw [HPR.out]; unfold LoopR; rw [hb, H0.out]; rfl) HNE.out
    | succ m => exact ⟨m, rfl⟩
   have HM : Hid (Ps.list X (lp n []) s = ((one m sk).bind fun k s1 => if Ps.isK X s1 Ps.k_rp = true then .ok (acc ++ k) s1 else (Ps.take X Ps.k_com s1).bind fun _ s2 => if Ps.isK X s2 Ps.k_rp = true then Ps.fail X 3 s2 else lp m (acc ++ k) s2).bind (FinL X Ps.k_rp)) := zh (by rw [HPR.out]; unfold LoopR; rw [hb, HSS.out, Ps.listL, hb]; rfl);have hmn : m < n := by omega
   clear hb HPR;go_wp2_with fail
   refine HI.out.mono ?_;rintro e w2 ⟨rfl, hb⟩;replace HK := zh (HK.out.below hb);replace HG := zh (HG.out.new hb);clear hb HI;have HC := zh (HOK.out m hmn _ _ _ _ _ _ _ HG.out.st (fun e => HNE.out (by rw [HM.out, e]; rfl)));go_wp2_with fail
   refine HC.out.mono ?_;rintro e w3 hq;rcases hq.parts (fun e => HNE.out (by rw [HM.out, e]; rfl)) with ⟨c, q, hr, rfl, hb⟩ | ⟨v, s3, n3, E3, hr, rfl, h1, h2, h3⟩
   ·have HE : Hid (OutL N p X S w tv nv D (Ps.list X (lp n []) s) (thrownS c q) w3) := zh (HG.out.badL hb (by rw [HM.out, hr]; rfl));clear hq hr hb HC
    unfold thrownS;go_wp2
    exact ⟨rfl, HE.out⟩
   obtain ⟨a, rfl⟩ := HONE.out m sk v s3 hr;have HDP3 : Hid (s3.deep = s.deep + 1) := zh ((HD1.out m sk _ _ hr).trans HDP.out);replace HM : Hid (Ps.list X (lp n []) s = (if Ps.isK X s3 Ps.k_rp = true then .ok (acc ++ [a]) s3 else (Ps.take X Ps.k_com s3).bind fun _ s2 => if Ps.isK X s2 Ps.k_rp = true then Ps.fail X 3 s2 else lp m (acc ++ [a]) s2).bind (FinL X Ps.k_rp)) := zh (by rw [HM.out, hr]; rfl);replace HK := zh (HK.out.mv HG.out h2 h3);replace HG := zh (HG.out.then h1 h2 h3);clear hq hr h1 h2 h3 HC;unfold oneV;obtain ⟨i0, hi0, hz0, hz1, hz2⟩ := info_parts int_info;have HKA := zh (HK.out.alloc (.cells #[.int .i64 (a : Int)] 3)).row;have hN3 := HG.out.st.nN;go_wp2_with (at_builtin; refine wpList_append_lies _ rfl _ _ _ rfl N 3 i0 _ 1 8 Tryz.underlying39 hi0 hz0 hz1 hz2 rfl (by omega) u5 acc.length (kidVals acc) rfl HKA.out ⟨w3.heap.size, 0, none⟩ 1 1 [.int .i64 (a : Int)] rfl rfl (World.news_of_block (cs := #[.int .i64 (a : Int)]) (t := 3) (fr := (0, 0)) (heap_alloc_new _ _)) (by intro x hx; simp at hx; subst hx; rfl) (by omega) (by unfold maxLen; omega) (by omega) (by simp; omega) (w3.heap.size + 1) (by simp) ?_; intro g2 cap2 w8 hown hgrow hat hlt; obtain ⟨hg8, hk8, _⟩ := HK.out.grown (l2 := [a]) HG.out hown rfl hgrow hat; replace HG := zh hg8; replace HK := zh hk8; clear hg8 hk8 hown hgrow hat hlt HKA)
   cases hb : Ps.isK X s3 Ps.k_rp with
   | true =>
    have HI := zh (spis_is HG.out.st ⟨#[41]⟩ true (zh hb));replace HM : Hid (Ps.list X (lp n []) s = (LoopR X Ps.k_rp lp m (acc ++ [a]) s3).bind (FinL X Ps.k_rp)) := zh (by rw [HM.out]; unfold LoopR; rw [hb]; rfl);clear hb;refine HI.out.mono ?_;rintro e w9 ⟨rfl, hb⟩;replace HK := zh (HK.out.below hb);replace HG := zh (HG.out.new hb);clear hb HI;go_wp2
    go_roundg m
    case rel => exact ⟨acc ++ [a], s3, n3, _, HG, HK, by simp; omega, HDP3, HM⟩
    case measure => omega
   | false =>
    have HI := zh (spis_is HG.out.st ⟨#[41]⟩ false (zh hb));replace HM : Hid (Ps.list X (lp n []) s = ((Ps.take X Ps.k_com s3).bind fun _ s2 => if Ps.isK X s2 Ps.k_rp = true then Ps.fail X 3 s2 else lp m (acc ++ [a]) s2).bind (FinL X Ps.k_rp)) := zh (by rw [HM.out]; rw [hb]; rfl);clear hb;refine HI.out.mono ?_;rintro e w9 ⟨rfl, hb⟩;replace HK := zh (HK.out.below hb);replace HG := zh (HG.out.new hb);clear hb HI;go_wp2_with fail
    refine (sptake_any HG.out.st ⟨#[44]⟩).mono ?_;rintro e w10 hq;rcases hq.parts (take_ne _ _ _) with ⟨c, q, hr, rfl, hb⟩ | ⟨v, s4, n4, E4, hr, rfl, h1, h2, h3⟩
    ·have HE : Hid (OutL N p X S w tv nv D (Ps.list X (lp n []) s) (thrownS c q) w10) := zh (HG.out.badL hb (by have hr2 : Ps.take X Ps.k_com s3 = .bad c q := hr; rw [HM.out, hr2]; rfl));clear hq hr hb
     unfold thrownS;go_wp2
     exact ⟨rfl, HE.out⟩
    have HDP4 : Hid (s4.deep = s.deep + 1) := zh ((Ps.Dp.take X _ s3 _ _ hr).trans HDP3.out);replace HM : Hid (Ps.list X (lp n []) s = (if Ps.isK X s4 Ps.k_rp = true then Ps.fail X 3 s4 else lp m (acc ++ [a]) s4).bind (FinL X Ps.k_rp)) := zh (by have hr2 : Ps.take X Ps.k_com s3 = .ok v s4 := hr; rw [HM.out, hr2]; rfl);replace HK := zh (HK.out.mv HG.out h2 h3);replace HG := zh (HG.out.then h1 h2 h3);clear hq hr h1 h2 h3;unfold oneV
    cases hb : Ps.isK X s4 Ps.k_rp with
    | true =>
     have HI := zh (spis_is HG.out.st ⟨#[41]⟩ true (zh hb));replace HM : Hid (Ps.list X (lp n []) s = .bad 3 (Ps.now X s4).pos) := zh (by rw [HM.out, hb]; rfl);clear hb;go_wp2_with fail
     refine HI.out.mono ?_;rintro e w11 ⟨rfl, hb⟩;replace HG := zh (HG.out.new hb);clear hb HI;go_wp2_with fail
     refine (spfail_any HG.out.st 3).mono ?_;rintro e w12 ⟨rfl, hb2⟩;have HE : Hid (OutL N p X S w tv nv D (Ps.list X (lp n []) s) (thrownS 3 (Ps.now X s4).pos) w12) := zh (HG.out.badL (hb2.mono HG.out.st.nN) HM.out);clear hb2;unfold thrownS;go_wp2
     exact ⟨rfl, HE.out⟩
    | false =>
     have HI := zh (spis_is HG.out.st ⟨#[41]⟩ false (zh hb));replace HM : Hid (Ps.list X (lp n []) s = (LoopR X Ps.k_rp lp m (acc ++ [a]) s4).bind (FinL X Ps.k_rp)) := zh (by rw [HM.out]; unfold LoopR; rw [hb]; rfl);clear hb;go_wp2_with fail
     refine HI.out.mono ?_;rintro e w11 ⟨rfl, hb⟩;replace HK := zh (HK.out.below hb);replace HG := zh (HG.out.new hb);clear hb HI;go_wp2
     go_roundg m
     case rel => exact ⟨acc ++ [a], s4, n4, _, HG, HK, by simp; omega, HDP4, HM⟩
     case measure => omega
end
end Go.Proofs.YtjickecdkmljpaaGreatDoor
namespace Go.Proofs.YtjickecdkmljpaaGreatDoor
open Go.RowKit

section
variable {N p : Nat} {w wk w2 : World} {X : Ps.Src} {S : ByteArray} {s sk : Ps.St} {tv nv nk : Value} {D E : List (Ps.Nd × Value)}
theorem Bx.same {w0 : World} {q : Nat} {c : Array Value} {t : TypeId} (h : Bx w0 wk nk q c t) (e : w2.heap[q]? = wk.heap[q]?) : Bx w0 w2 nk q c t := ⟨e.trans h.blk, h.lo, h.ne⟩
set_option maxRecDepth 100000 in
set_option maxHeartbeats 2000000 in
theorem spitems_any (n : Nat) (hn : n ≤ 1000000) (fid : FuncId) (hc : ∀ args w, (callFunc fid args).run Tryz.prog w = .ok (.enter fid args) w) (lp : Nat → List Nat → Ps.St → Ps.Res) (one : Nat → Ps.St → Ps.Res)
  (h0 : ∀ a s, lp 0 a s = .out) (hs : ∀ m a s, lp (m + 1) a s = Ps.itemsL X (one m) (lp m) a s) (hone : ∀ m s, Ps.One (one m s)) (hd1 : ∀ m s, Ps.Dp (one m s) s.deep) (hok : ∀ m, m < n → POk X S fid oneV (one m))
  (h : PSt N p w X S s tv nv D) (hne : Ps.items X (lp n []) s ≠ .out) :
  Calls Tryz.prog 147 #[.pointer (some ⟨p, 0, none⟩), .func (.func fid) #[.pointer (some ⟨p, 0, none⟩)] #[]] w (OutL N p X S w tv nv D (Ps.items X (lp n []) s)) := by
 have HG := zh (Go.start h);have HNE := zh hne;have H0 := zh h0;have HSS := zh hs;have HONE := zh hone;have HD1 := zh hd1;have HOK := zh hok;have hd0 := h.d0;clear h hne h0 hs hone hd1 hok
 go_enter Tryz.func147, Tryz.ntmps147
 go_wp2_with fail
 refine (spenter_any HG.out.st ⟨#[123]⟩).mono ?_;rintro e w1 hq;rcases hq.parts (enter_ne _ _ _) with ⟨c, q, hr, rfl, hb⟩ | ⟨v, s1, n1, E1, hr, rfl, h1, h2, h3⟩
 ·have HE : Hid (OutL N p X S w tv nv D (Ps.items X (lp n []) s) (thrownS c q) w1) := zh (HG.out.badL hb (by have hr2 : Ps.enter X Ps.k_lb s = .bad c q := hr; simp [Ps.items, hr2, Ps.Res.bind]));clear hq hr hb
  unfold thrownS;go_wp2
  exact ⟨rfl, HE.out⟩
 have hr2 : Ps.enter X Ps.k_lb s = .ok v s1 := hr;have hdeep : s1.deep = s.deep + 1 := Ps.Dp.enter X _ s v s1 hr2;have HPL : Hid (Ps.items X (lp n []) s = (lp n [] s1).bind (FinL X Ps.k_rb)) := zh (by simp only [Ps.items, hr2, Ps.Res.bind]; rfl);have hnz : n ≠ 0 := by rintro rfl; exact HNE.out (by rw [HPL.out, H0.out]; rfl)
 have HPR : Hid (Ps.items X (lp n []) s = (LoopR X Ps.k_rb lp n [] s1).bind (FinL X Ps.k_rb)) := zh (by
  rw [HPL.out];unfold LoopR;obtain ⟨m, rfl⟩ : ∃ m, n = m + 1 := ⟨n - 1, by omega⟩
  split
  ·rename_i hb
   rw [HSS.out, Ps.itemsL, if_pos hb]
  ·rfl)
 replace HG := zh (HG.out.then h1 h2 h3);clear hq hr hr2 h1 h2 h3 HPL;have hql := HG.out.st.lt;have HB1 := HG;unfold oneV;go_wp2_with fail
 go_loopg [5] n (fun m u wr => ∃ (acc : List Nat) (sk : Ps.St) (nk : Value) (E : List (Ps.Nd × Value)), Hid (Go N p X S w tv nv D wr sk nk E) ∧ Hid (Kd N w wr (D ++ E) u acc) ∧ acc.length + m = n ∧ Hid (sk.deep = s.deep + 1) ∧ Hid (Ps.items X (lp n []) s = (LoopR X Ps.k_rb lp m acc sk).bind (FinL X Ps.k_rb)))
 case atStart => exact ⟨[], s1, n1, _, HG, zh (Kd.nil _ _ _ _), by simp, zh hdeep, HPR⟩
 case round =>
  clear HG HPR HB1;obtain ⟨acc, sk, nk, E, HG, HK, hacc, HDP, HPR⟩ := hrel
  cases hb : Ps.isK X sk Ps.k_rb with
  | true =>
   have HI := zh (spis_is HG.out.st ⟨#[125]⟩ true (zh hb));have HPE : Hid (Ps.items X (lp n []) s = FinL X Ps.k_rb acc sk) := zh (by rw [HPR.out]; unfold LoopR; rw [if_pos hb]; rfl);clear hb HPR;go_wp2_with fail
   refine HI.out.mono ?_;rintro e w2 ⟨rfl, hb⟩;replace HK := zh (HK.out.below hb);replace HG := zh (HG.out.new hb);clear hb HI;go_wp2_with fail
   refine (spleave_any HG.out.st ⟨#[125]⟩ (by rw [HDP.out]; omega)).mono ?_;rintro e w3 hq;rcases hq.parts (leave_ne _ _ _) with ⟨c, q, hr, rfl, hb⟩ | ⟨v, s3, n3, E3, hr, rfl, h1, h2, h3⟩
   ·have HE : Hid (OutL N p X S w tv nv D (Ps.items X (lp n []) s) (thrownS c q) w3) := zh (HG.out.badL hb (by have hr2 : Ps.leave X Ps.k_rb sk = .bad c q := hr; rw [HPE.out]; unfold FinL; rw [hr2]; rfl));clear hq hr hb
    unfold thrownS;go_wp2
    exact ⟨rfl, HE.out⟩
   ·have HE : Hid (OutL N p X S w tv nv D (Ps.items X (lp n []) s) (.returned u5) w3) := zh ((HG.out.then h1 h2 h3).outL (HK.out.mv HG.out h2 h3) (by omega) (by have hr2 : Ps.leave X Ps.k_rb sk = .ok v s3 := hr; rw [HPE.out]; unfold FinL; rw [hr2]; rfl));clear hq hr h1 h2 h3
    unfold unitV;go_wp2
    go_returns
    exact HE.out
  | false =>
   have HI := zh (spis_is HG.out.st ⟨#[125]⟩ false (zh hb));obtain ⟨m, rfl⟩ : ∃ m, gk = m + 1 := by
    cases gk with
    | zero => exact absurd (by rw [HPR.out]; unfold LoopR; rw [hb, H0.out]; rfl) HNE.out
    | succ m => exact ⟨m, rfl⟩
   have HM : Hid (Ps.items X (lp n []) s = ((one m sk).bind fun k s1 => if Ps.isK X s1 Ps.k_rb = true then .ok (acc ++ k) s1 else (Ps.take X Ps.k_semi s1).bind fun _ s2 => lp m (acc ++ k) s2).bind (FinL X Ps.k_rb)) := zh (by rw [HPR.out]; unfold LoopR; rw [hb, HSS.out, Ps.itemsL, hb]; rfl);have hmn : m < n := by omega
   clear hb HPR;go_wp2_with fail
   refine HI.out.mono ?_;rintro e w2 ⟨rfl, hb⟩;replace HK := zh (HK.out.below hb);replace HG := zh (HG.out.new hb);clear hb HI;have HC := zh (HOK.out m hmn _ _ _ _ _ _ _ HG.out.st (fun e => HNE.out (by rw [HM.out, e]; rfl)));go_wp2_with fail
   refine HC.out.mono ?_;rintro e w3 hq;rcases hq.parts (fun e => HNE.out (by rw [HM.out, e]; rfl)) with ⟨c, q, hr, rfl, hb⟩ | ⟨v, s3, n3, E3, hr, rfl, h1, h2, h3⟩
   ·have HE : Hid (OutL N p X S w tv nv D (Ps.items X (lp n []) s) (thrownS c q) w3) := zh (HG.out.badL hb (by rw [HM.out, hr]; rfl));clear hq hr hb HC
    unfold thrownS;go_wp2
    exact ⟨rfl, HE.out⟩
   obtain ⟨a, rfl⟩ := HONE.out m sk v s3 hr;have HDP3 : Hid (s3.deep = s.deep + 1) := zh ((HD1.out m sk _ _ hr).trans HDP.out);replace HM : Hid (Ps.items X (lp n []) s = (if Ps.isK X s3 Ps.k_rb = true then .ok (acc ++ [a]) s3 else (Ps.take X Ps.k_semi s3).bind fun _ s2 => lp m (acc ++ [a]) s2).bind (FinL X Ps.k_rb)) := zh (by rw [HM.out, hr]; rfl);replace HK := zh (HK.out.mv HG.out h2 h3);replace HG := zh (HG.out.then h1 h2 h3);clear hq hr h1 h2 h3 HC;unfold oneV;obtain ⟨i0, hi0, hz0, hz1, hz2⟩ := info_parts int_info;have HKA := zh (HK.out.alloc (.cells #[.int .i64 (a : Int)] 3)).row;have hN3 := HG.out.st.nN;go_wp2_with (at_builtin; refine wpList_append_lies _ rfl _ _ _ rfl N 3 i0 _ 1 8 Tryz.underlying39 hi0 hz0 hz1 hz2 rfl (by omega) u5 acc.length (kidVals acc) rfl HKA.out ⟨w3.heap.size, 0, none⟩ 1 1 [.int .i64 (a : Int)] rfl rfl (World.news_of_block (cs := #[.int .i64 (a : Int)]) (t := 3) (fr := (0, 0)) (heap_alloc_new _ _)) (by intro x hx; simp at hx; subst hx; rfl) (by omega) (by unfold maxLen; omega) (by omega) (by simp; omega) (w3.heap.size + 1) (by simp) ?_; intro g2 cap2 w8 hown hgrow hat hlt; obtain ⟨hg8, hk8, _⟩ := HK.out.grown (l2 := [a]) HG.out hown rfl hgrow hat; replace HG := zh hg8; replace HK := zh hk8; clear hg8 hk8 hown hgrow hat hlt HKA)
   cases hb : Ps.isK X s3 Ps.k_rb with
   | true =>
    have HI := zh (spis_is HG.out.st ⟨#[125]⟩ true (zh hb));replace HM : Hid (Ps.items X (lp n []) s = (LoopR X Ps.k_rb lp m (acc ++ [a]) s3).bind (FinL X Ps.k_rb)) := zh (by rw [HM.out]; unfold LoopR; rw [hb]; rfl);clear hb;refine HI.out.mono ?_;rintro e w9 ⟨rfl, hb⟩;replace HK := zh (HK.out.below hb);replace HG := zh (HG.out.new hb);clear hb HI;go_wp2
    go_roundg m
    case rel => exact ⟨acc ++ [a], s3, n3, _, HG, HK, by simp; omega, HDP3, HM⟩
    case measure => omega
   | false =>
    have HI := zh (spis_is HG.out.st ⟨#[125]⟩ false (zh hb));replace HM : Hid (Ps.items X (lp n []) s = ((Ps.take X Ps.k_semi s3).bind fun _ s2 => lp m (acc ++ [a]) s2).bind (FinL X Ps.k_rb)) := zh (by rw [HM.out]; rw [hb]; rfl);clear hb;refine HI.out.mono ?_;rintro e w9 ⟨rfl, hb⟩;replace HK := zh (HK.out.below hb);replace HG := zh (HG.out.new hb);clear hb HI;go_wp2_with fail
    refine (sptake_any HG.out.st ⟨#[59]⟩).mono ?_;rintro e w10 hq;rcases hq.parts (take_ne _ _ _) with ⟨c, q, hr, rfl, hb⟩ | ⟨v, s4, n4, E4, hr, rfl, h1, h2, h3⟩
    ·have HE : Hid (OutL N p X S w tv nv D (Ps.items X (lp n []) s) (thrownS c q) w10) := zh (HG.out.badL hb (by have hr2 : Ps.take X Ps.k_semi s3 = .bad c q := hr; rw [HM.out, hr2]; rfl));clear hq hr hb
     unfold thrownS;go_wp2
     exact ⟨rfl, HE.out⟩
    have HDP4 : Hid (s4.deep = s.deep + 1) := zh ((Ps.Dp.take X _ s3 _ _ hr).trans HDP3.out);replace HM : Hid (Ps.items X (lp n []) s = (LoopR X Ps.k_rb lp m (acc ++ [a]) s4).bind (FinL X Ps.k_rb)) := zh (by
     have hr2 : Ps.take X Ps.k_semi s3 = .ok v s4 := hr;have h4 : Ps.items X (lp n []) s = (lp m (acc ++ [a]) s4).bind (FinL X Ps.k_rb) := by rw [HM.out, hr2]; rfl
     rw [h4];unfold LoopR
     cases m with
     | zero => exact absurd (by rw [h4, H0.out]; rfl) HNE.out
     | succ m1 =>
      split
      ·rename_i hb
       rw [HSS.out, Ps.itemsL, if_pos hb]
      ·rfl)
    replace HK := zh (HK.out.mv HG.out h2 h3);replace HG := zh (HG.out.then h1 h2 h3);clear hq hr h1 h2 h3;unfold oneV;go_wp2
    go_roundg m
    case rel => exact ⟨acc ++ [a], s4, n4, _, HG, HK, by simp; omega, HDP4, HM⟩
    case measure => omega
set_option maxRecDepth 100000 in
set_option maxHeartbeats 2000000 in
theorem spitems_box (w0 : World) (hp0 : p < w0.heap.size) (qq : Nat) (n : Nat) (hn : n ≤ 1000000) (lp : Nat → List Nat → Ps.St → Ps.Res) (one : Nat → Ps.St → Ps.Res)
  (h0 : ∀ a s, lp 0 a s = .out) (hs : ∀ m a s, lp (m + 1) a s = Ps.itemsL X (one m) (lp m) a s) (hone : ∀ m s, Ps.One (one m s)) (hd1 : ∀ m s, Ps.Dp (one m s) s.deep) (hok : ∀ m, m < n → ∀ wk sk nk E, PSt N p wk X S sk tv nk (D ++ E) → Bx w0 wk nk qq #[.pointer (some ⟨p, 0, none⟩)] 61 → one m sk ≠ .out → Calls Tryz.prog 149 #[.pointer (some ⟨qq, 0, none⟩)] wk (Out N p X S wk tv nk (D ++ E) oneV (one m sk)))
  (h : PSt N p w X S s tv nv D) (hx : Bx w0 w nv qq #[.pointer (some ⟨p, 0, none⟩)] 61) (hne : Ps.items X (lp n []) s ≠ .out) :
  Calls Tryz.prog 147 #[.pointer (some ⟨p, 0, none⟩), .func (.func 149) #[] #[.pointer (some ⟨qq, 0, none⟩)]] w (OutL N p X S w tv nv D (Ps.items X (lp n []) s)) := by
 have HG := zh (Go.start h);have HNE := zh hne;have H0 := zh h0;have HSS := zh hs;have HONE := zh hone;have HD1 := zh hd1;have HOK := zh hok;have hd0 := h.d0;have HX := zh hx;clear hx h hne h0 hs hone hd1 hok
 go_enter Tryz.func147, Tryz.ntmps147
 go_wp2_with fail
 refine (spenter_any HG.out.st ⟨#[123]⟩).mono ?_;rintro e w1 hq;rcases hq.parts (enter_ne _ _ _) with ⟨c, q, hr, rfl, hb⟩ | ⟨v, s1, n1, E1, hr, rfl, h1, h2, h3⟩
 ·have HE : Hid (OutL N p X S w tv nv D (Ps.items X (lp n []) s) (thrownS c q) w1) := zh (HG.out.badL hb (by have hr2 : Ps.enter X Ps.k_lb s = .bad c q := hr; simp [Ps.items, hr2, Ps.Res.bind]));clear hq hr hb
  unfold thrownS;go_wp2
  exact ⟨rfl, HE.out⟩
 have hr2 : Ps.enter X Ps.k_lb s = .ok v s1 := hr;have hdeep : s1.deep = s.deep + 1 := Ps.Dp.enter X _ s v s1 hr2;have HPL : Hid (Ps.items X (lp n []) s = (lp n [] s1).bind (FinL X Ps.k_rb)) := zh (by simp only [Ps.items, hr2, Ps.Res.bind]; rfl);have hnz : n ≠ 0 := by rintro rfl; exact HNE.out (by rw [HPL.out, H0.out]; rfl)
 have HPR : Hid (Ps.items X (lp n []) s = (LoopR X Ps.k_rb lp n [] s1).bind (FinL X Ps.k_rb)) := zh (by
  rw [HPL.out];unfold LoopR;obtain ⟨m, rfl⟩ : ∃ m, n = m + 1 := ⟨n - 1, by omega⟩
  split
  ·rename_i hb
   rw [HSS.out, Ps.itemsL, if_pos hb]
  ·rfl)
 replace HX := zh (HX.out.mv hp0 h2);replace HG := zh (HG.out.then h1 h2 h3);clear hq hr hr2 h1 h2 h3 HPL;have hql := HG.out.st.lt;have HB1 := HG;unfold oneV;go_wp2_with fail
 go_loopg [5] n (fun m u wr => ∃ (acc : List Nat) (sk : Ps.St) (nk : Value) (E : List (Ps.Nd × Value)), Hid (Go N p X S w tv nv D wr sk nk E) ∧ Hid (Kd N w wr (D ++ E) u acc) ∧ Hid (Bx w0 wr nk qq #[.pointer (some ⟨p, 0, none⟩)] 61) ∧ acc.length + m = n ∧ Hid (sk.deep = s.deep + 1) ∧ Hid (Ps.items X (lp n []) s = (LoopR X Ps.k_rb lp m acc sk).bind (FinL X Ps.k_rb)))
 case atStart => exact ⟨[], s1, n1, _, HG, zh (Kd.nil _ _ _ _), HX, by simp, zh hdeep, HPR⟩
 case round =>
  clear HG HX HPR HB1;obtain ⟨acc, sk, nk, E, HG, HK, HX, hacc, HDP, HPR⟩ := hrel
  cases hb : Ps.isK X sk Ps.k_rb with
  | true =>
   have HI := zh (spis_is HG.out.st ⟨#[125]⟩ true (zh hb));have HPE : Hid (Ps.items X (lp n []) s = FinL X Ps.k_rb acc sk) := zh (by rw [HPR.out]; unfold LoopR; rw [if_pos hb]; rfl);clear hb HPR;go_wp2_with fail
   refine HI.out.mono ?_;rintro e w2 ⟨rfl, hb⟩;replace HK := zh (HK.out.below hb);replace HX := zh (HX.out.below hb);replace HG := zh (HG.out.new hb);clear hb HI;go_wp2_with fail
   refine (spleave_any HG.out.st ⟨#[125]⟩ (by rw [HDP.out]; omega)).mono ?_;rintro e w3 hq;rcases hq.parts (leave_ne _ _ _) with ⟨c, q, hr, rfl, hb⟩ | ⟨v, s3, n3, E3, hr, rfl, h1, h2, h3⟩
   ·have HE : Hid (OutL N p X S w tv nv D (Ps.items X (lp n []) s) (thrownS c q) w3) := zh (HG.out.badL hb (by have hr2 : Ps.leave X Ps.k_rb sk = .bad c q := hr; rw [HPE.out]; unfold FinL; rw [hr2]; rfl));clear hq hr hb
    unfold thrownS;go_wp2
    exact ⟨rfl, HE.out⟩
   ·have HE : Hid (OutL N p X S w tv nv D (Ps.items X (lp n []) s) (.returned u5) w3) := zh ((HG.out.then h1 h2 h3).outL (HK.out.mv HG.out h2 h3) (by omega) (by have hr2 : Ps.leave X Ps.k_rb sk = .ok v s3 := hr; rw [HPE.out]; unfold FinL; rw [hr2]; rfl));clear hq hr h1 h2 h3
    unfold unitV;go_wp2
    go_returns
    exact HE.out
  | false =>
   have HI := zh (spis_is HG.out.st ⟨#[125]⟩ false (zh hb));obtain ⟨m, rfl⟩ : ∃ m, gk = m + 1 := by
    cases gk with
    | zero => exact absurd (by rw [HPR.out]; unfold LoopR; rw [hb, H0.out]; rfl) HNE.out
    | succ m => exact ⟨m, rfl⟩
   have HM : Hid (Ps.items X (lp n []) s = ((one m sk).bind fun k s1 => if Ps.isK X s1 Ps.k_rb = true then .ok (acc ++ k) s1 else (Ps.take X Ps.k_semi s1).bind fun _ s2 => lp m (acc ++ k) s2).bind (FinL X Ps.k_rb)) := zh (by rw [HPR.out]; unfold LoopR; rw [hb, HSS.out, Ps.itemsL, hb]; rfl);have hmn : m < n := by omega
   clear hb HPR;go_wp2_with fail
   refine HI.out.mono ?_;rintro e w2 ⟨rfl, hb⟩;replace HK := zh (HK.out.below hb);replace HX := zh (HX.out.below hb);replace HG := zh (HG.out.new hb);clear hb HI;have HC := zh (HOK.out m hmn _ _ _ _ HG.out.st HX.out (fun e => HNE.out (by rw [HM.out, e]; rfl)));go_wp2_with fail
   refine HC.out.mono ?_;rintro e w3 hq;rcases hq.parts (fun e => HNE.out (by rw [HM.out, e]; rfl)) with ⟨c, q, hr, rfl, hb⟩ | ⟨v, s3, n3, E3, hr, rfl, h1, h2, h3⟩
   ·have HE : Hid (OutL N p X S w tv nv D (Ps.items X (lp n []) s) (thrownS c q) w3) := zh (HG.out.badL hb (by rw [HM.out, hr]; rfl));clear hq hr hb HC
    unfold thrownS;go_wp2
    exact ⟨rfl, HE.out⟩
   obtain ⟨a, rfl⟩ := HONE.out m sk v s3 hr;have HDP3 : Hid (s3.deep = s.deep + 1) := zh ((HD1.out m sk _ _ hr).trans HDP.out);replace HM : Hid (Ps.items X (lp n []) s = (if Ps.isK X s3 Ps.k_rb = true then .ok (acc ++ [a]) s3 else (Ps.take X Ps.k_semi s3).bind fun _ s2 => lp m (acc ++ [a]) s2).bind (FinL X Ps.k_rb)) := zh (by rw [HM.out, hr]; rfl);replace HK := zh (HK.out.mv HG.out h2 h3);replace HX := zh (HX.out.mv hp0 h2);replace HG := zh (HG.out.then h1 h2 h3);clear hq hr h1 h2 h3 HC;unfold oneV;obtain ⟨i0, hi0, hz0, hz1, hz2⟩ := info_parts int_info;have HKA := zh (HK.out.alloc (.cells #[.int .i64 (a : Int)] 3)).row;have hN3 := HG.out.st.nN;go_wp2_with (at_builtin; refine wpList_append_lies _ rfl _ _ _ rfl N 3 i0 _ 1 8 Tryz.underlying39 hi0 hz0 hz1 hz2 rfl (by omega) u5 acc.length (kidVals acc) rfl HKA.out ⟨w3.heap.size, 0, none⟩ 1 1 [.int .i64 (a : Int)] rfl rfl (World.news_of_block (cs := #[.int .i64 (a : Int)]) (t := 3) (fr := (0, 0)) (heap_alloc_new _ _)) (by intro x hx; simp at hx; subst hx; rfl) (by omega) (by unfold maxLen; omega) (by omega) (by simp; omega) (w3.heap.size + 1) (by simp) ?_; intro g2 cap2 w8 hown hgrow hat hlt; obtain ⟨hg8, hk8, hk9⟩ := HK.out.grown (l2 := [a]) HG.out hown rfl hgrow hat; replace HX := zh (Bx.same HX.out (hk9 _ HX.out.lt (fun e => own_ne_blk HK.out.row HX.out.blk (by decide) e))); clear hk9; replace HG := zh hg8; replace HK := zh hk8; clear hg8 hk8 hown hgrow hat hlt HKA)
   cases hb : Ps.isK X s3 Ps.k_rb with
   | true =>
    have HI := zh (spis_is HG.out.st ⟨#[125]⟩ true (zh hb));replace HM : Hid (Ps.items X (lp n []) s = (LoopR X Ps.k_rb lp m (acc ++ [a]) s3).bind (FinL X Ps.k_rb)) := zh (by rw [HM.out]; unfold LoopR; rw [hb]; rfl);clear hb;refine HI.out.mono ?_;rintro e w9 ⟨rfl, hb⟩;replace HK := zh (HK.out.below hb);replace HX := zh (HX.out.below hb);replace HG := zh (HG.out.new hb);clear hb HI;go_wp2
    go_roundg m
    case rel => exact ⟨acc ++ [a], s3, n3, _, HG, HK, HX, by simp; omega, HDP3, HM⟩
    case measure => omega
   | false =>
    have HI := zh (spis_is HG.out.st ⟨#[125]⟩ false (zh hb));replace HM : Hid (Ps.items X (lp n []) s = ((Ps.take X Ps.k_semi s3).bind fun _ s2 => lp m (acc ++ [a]) s2).bind (FinL X Ps.k_rb)) := zh (by rw [HM.out]; rw [hb]; rfl);clear hb;refine HI.out.mono ?_;rintro e w9 ⟨rfl, hb⟩;replace HK := zh (HK.out.below hb);replace HX := zh (HX.out.below hb);replace HG := zh (HG.out.new hb);clear hb HI;go_wp2_with fail
    refine (sptake_any HG.out.st ⟨#[59]⟩).mono ?_;rintro e w10 hq;rcases hq.parts (take_ne _ _ _) with ⟨c, q, hr, rfl, hb⟩ | ⟨v, s4, n4, E4, hr, rfl, h1, h2, h3⟩
    ·have HE : Hid (OutL N p X S w tv nv D (Ps.items X (lp n []) s) (thrownS c q) w10) := zh (HG.out.badL hb (by have hr2 : Ps.take X Ps.k_semi s3 = .bad c q := hr; rw [HM.out, hr2]; rfl));clear hq hr hb
     unfold thrownS;go_wp2
     exact ⟨rfl, HE.out⟩
    have HDP4 : Hid (s4.deep = s.deep + 1) := zh ((Ps.Dp.take X _ s3 _ _ hr).trans HDP3.out);replace HM : Hid (Ps.items X (lp n []) s = (LoopR X Ps.k_rb lp m (acc ++ [a]) s4).bind (FinL X Ps.k_rb)) := zh (by
     have hr2 : Ps.take X Ps.k_semi s3 = .ok v s4 := hr;have h4 : Ps.items X (lp n []) s = (lp m (acc ++ [a]) s4).bind (FinL X Ps.k_rb) := by rw [HM.out, hr2]; rfl
     rw [h4];unfold LoopR
     cases m with
     | zero => exact absurd (by rw [h4, H0.out]; rfl) HNE.out
     | succ m1 =>
      split
      ·rename_i hb
       rw [HSS.out, Ps.itemsL, if_pos hb]
      ·rfl)
    replace HK := zh (HK.out.mv HG.out h2 h3);replace HX := zh (HX.out.mv hp0 h2);replace HG := zh (HG.out.then h1 h2 h3);clear hq hr h1 h2 h3;unfold oneV;go_wp2
    go_roundg m
    case rel => exact ⟨acc ++ [a], s4, n4, _, HG, HK, HX, by simp; omega, HDP4, HM⟩
    case measure => omega
end
end Go.Proofs.YtjickecdkmljpaaGreatDoor
