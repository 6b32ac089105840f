/-
  PROVED HERE: what the program's checker.choose does to a checker's memory, and what it answers. No condition beyond the lemmas' own premises.
-/
import Derived.Test.YtjomajfgoaifbaaPLead
import Derived.Test.YtjomajfgoaifbaaRPlain
namespace Go.Proofs.Ytjomajfgoaifbaa
open Go.RowKit

/-- What the program makes of an order. -/
def DoPost (B N r p : Nat) (vo vf vk : Value) (o : Option (List (Int × Int))) (D W : List Int) (w : World) (e : Ending) (w' : World) : Prop :=
  ∃ (ok : Bool) (D' W' : List Int), e = .returned (.bool ok) ∧ ChkSt B N r w' p vo vf vk D' W' ∧ (o = none → ok = false) ∧ (∀ l, o = some l → ok = (Cd.leads D W l).1 ∧ (ok = true → D' = (Cd.leads D W l).2.1 ∧ W' = (Cd.leads D W l).2.2)) ∧ Keep B N p w w'

theorem leads_prefix : ∀ (l1 l2 : List (Int × Int)) (D W : List Int), (Cd.leads D W (l1 ++ l2)).1 = true → (Cd.leads D W l1).1 = true
  | [], l2, D, W, _ => rfl
  | x :: l1, l2, D, W, h => by
    rw [List.cons_append, Cd.leads] at h
    rw [Cd.leads]
    split at h
    · rename_i hb
      rw [if_pos hb]
      exact leads_prefix l1 l2 _ _ h
    · cases h

theorem leads_fail {l1 l2 : List (Int × Int)} {x : Int × Int} {D W : List Int} (h1 : Cd.leadOK (Cd.leads D W l1).2.1 x.1 x.2 = false) : (Cd.leads D W (l1 ++ x :: l2)).1 = false := by
  cases h : (Cd.leads D W (l1 ++ x :: l2)).1 with
  | false => rfl
  | true =>
    have e : l1 ++ x :: l2 = (l1 ++ [x]) ++ l2 := by simp
    rw [e] at h
    have := leads_prefix _ _ _ _ h
    rw [(leads_snoc l1 D W x).1, h1] at this
    simp at this

theorem leads_next {l1 : List (Int × Int)} {x : Int × Int} {D W : List Int} (h0 : (Cd.leads D W l1).1 = true) (h1 : Cd.leadOK (Cd.leads D W l1).2.1 x.1 x.2 = true) :
    (Cd.leads D W (l1 ++ [x])).1 = true ∧ (Cd.leads D W (l1 ++ [x])).2.1 = pD (Cd.leads D W l1).2.1 x.1 x.2 ∧ (Cd.leads D W (l1 ++ [x])).2.2 = pW (Cd.leads D W l1).2.1 (Cd.leads D W l1).2.2 x.1 x.2 := by
  obtain ⟨s1, s2⟩ := leads_snoc l1 D W x
  have e : (Cd.leads D W (l1 ++ [x])).1 = true := by rw [s1, h0, h1]; rfl
  obtain ⟨a, b⟩ := s2 e
  exact ⟨e, by rw [a]; unfold pD; rw [if_pos h1], by rw [b]; unfold pW; rw [if_pos h1]⟩

theorem leads_len : ∀ (l : List (Int × Int)) (D W : List Int), (Cd.leads D W l).2.1.length = D.length
  | [], D, W => rfl
  | x :: l, D, W => by
    rw [Cd.leads]
    split
    · rw [leads_len l]; exact Cd.leadD_length _ _ _
    · rfl

theorem DoPost.none {B N r p : Nat} {vo vf vk : Value} {D W D' W' : List Int} {w w' : World} (h : ChkSt B N r w' p vo vf vk D' W') (hb : Keep B N p w w') : DoPost B N r p vo vf vk Option.none D W w (.returned (.bool false)) w' :=
  ⟨false, D', W', rfl, h, (fun _ => rfl), (fun l h => by cases h), hb⟩

/-- Of a checker what a walk reads. -/
theorem ChkSt.look {B N r p : Nat} {w : World} {vo vf vk : Value} {D W : List Int} (h : ChkSt B N r w p vo vf vk D W) :
    w.cell? ⟨p, 0, none⟩ = some vo ∧ w.cell? ⟨p, 1, none⟩ = some vf ∧ w.cell? ⟨p, 2, none⟩ = some vk ∧ w.cell? ⟨p, 3, none⟩ = some (.map (some r)) := by
  obtain ⟨hp, hf, g, cap, vr, hb, hd, hr⟩ := h
  exact ⟨by rw [blk_cell hb]; rfl, by rw [blk_cell hb]; rfl, by rw [blk_cell hb]; rfl, by rw [blk_cell hb]; rfl⟩

theorem casesN_split {C : Cd.GCode} {at_ j n : Nat} (h : j + 1 ≤ n) (hl : at_ + 1 + j < C.ops.length) : ∃ rest, casesN C at_ n = casesN C at_ j ++ Cd.opAt C (at_ + 1 + j) :: rest := by
  refine ⟨(casesN C at_ n).drop (j + 1), ?_⟩
  have e : (casesN C at_ n).take (j + 1) = casesN C at_ (j + 1) := by unfold casesN; rw [List.take_take, Nat.min_eq_left h]
  have := List.take_append_drop (j + 1) (casesN C at_ n)
  rw [e, casesN_succ hl, List.append_assoc] at this
  exact this.symm

set_option maxRecDepth 100000 in
set_option maxHeartbeats 2000000 in
theorem pchoose_any (B N r p : Nat) (w : World) (vo vf vk : Value) (C : Cd.GCode) (D W : List Int) (at_ : Nat) (deep : Int) (hW : ChkSt B N r w p vo vf vk D W) (hops : OpsV B w vo C.ops) (hn : D.length = C.ops.length) (h8 : C.ops.length ≤ 8000)
    (hr : ∀ o ∈ C.ops, Cd.rangeB C.ops.length C.fns.length C.kinds.length o = true) (hat : at_ < C.ops.length) (hd28 : (Cd.opAt C at_).d = 28) (hd0 : 0 ≤ deep) (hd1 : deep ≤ 1200) :
    Calls Try.prog 59 #[.pointer (some ⟨p, 0, none⟩), .int .i64 at_, .int .i64 deep] w (DoPost B N r p vo vf vk (Cd.chooseF C at_ deep) D W w) := by
  have HW := Lib.hid hW
  have Hops := Lib.hid hops
  obtain ⟨c0, c1, c2, c3⟩ := hW.look
  have hpl := hW.lt
  have hpB := hW.1.1
  have hNle := hW.nle
  obtain ⟨hI, a, b, o, co, rfl, hco, hco2, hab, hc⟩ := hops
  obtain ⟨rfl, hbB⟩ := hab (by omega)
  obtain ⟨n, hna⟩ : ∃ n : Nat, (Cd.opAt C at_).a = n := Int.eq_ofNat_of_zero_le ((Cd.rangeB_pos (hr _ (opAt_mem hat))).2.2.1 (Or.inl hd28)).1
  have hn12 : n ≤ 1200 := by have := ((Cd.rangeB_pos (hr _ (opAt_mem hat))).2.2.1 (Or.inl hd28)).2; omega
  have ha := (hc at_ hat).2.1
  rw [show (C.ops.getD at_ ⟨0, 0, 0⟩).a = n from hna] at ha
  have Hna := Lib.hid hna
  have Hn := Lib.hid hn
  have H28 := Lib.hid hd28
  have Hr := Lib.hid hr
  have HI := Lib.hid hI
  have Hc := Lib.hid hc
  have hbl : b < w.heap.size := by omega
  clear hna hn hd28 hr hI hc hW hab
  by_cases hsh : C.ops.length ≤ at_ + n
  · have hnone := Lib.hid (choose_short (C := C) (at_ := at_) (deep := deep) (by have := Hna.out; omega))
    go_enter Try.func59, Try.ntmps59
    go_wp2
    go_returns
    rw [hnone.out]
    exact DoPost.none HW.out (Keep.refl _ _ _ _)
  by_cases hn0 : n = 0
  · subst hn0
    have hcs : Cd.casesOf C at_ = [] := by rw [casesN_all, Hna.out]; simp [casesN]
    have hsome := Lib.hid (choose_some (C := C) (at_ := at_) (deep := deep) (by have := Hna.out; omega) (by rw [hcs]; simp) (by rw [hcs]; simp [Cd.othersOf]) (by rw [hcs]; simp [Cd.restDeep]; omega))
    rw [hcs] at hsome
    clear hcs
    go_enter Try.func59, Try.ntmps59
    go_wp2
    all_goals
      refine wp_loop_rounds 1 ?_
      rw [rounds_succ]
      go_wp2
      refine wp_loop_rounds 1 ?_
      rw [rounds_succ]
      go_wp2
      go_returns
      rw [hsome.out]
      exact ⟨true, D, W, rfl, HW.out, (fun h => by cases h), (fun l h => by cases h; exact ⟨rfl, fun _ => ⟨rfl, rfl⟩⟩), Keep.refl _ _ _ _⟩
  have hcap : ¬ co = at_ + 1 := by omega
  have Hcell : Hid (∀ k, k < n → w.cell? ⟨b, o + (at_ + 1) * 3 + k * 3, none⟩ = some (.int .i64 (Cd.opAt C (at_ + 1 + k)).d) ∧ w.cell? ⟨b, o + (at_ + 1) * 3 + k * 3 + 1, none⟩ = some (.int .i64 (Cd.opAt C (at_ + 1 + k)).a) ∧ w.cell? ⟨b, o + (at_ + 1) * 3 + k * 3 + 2, none⟩ = some (.int .i64 (Cd.opAt C (at_ + 1 + k)).b)) := Lib.hid (by
    intro k hk
    have := Hc.out (at_ + 1 + k) (by omega)
    rw [show o + (at_ + 1 + k) * 3 = o + (at_ + 1) * 3 + k * 3 by omega] at this
    exact this)
  go_enter Try.func59, Try.ntmps59
  go_wp2
  rw [show at_ + 1 + n - (at_ + 1) = n from by omega]
  go_loopw [2, 9, 48] (fun dp ot i wr => Below w.heap.size w wr ∧ ∃ k : Nat, k ≤ n ∧ i = .int .i64 k ∧ ot = .int .i64 (Cd.othersOf (casesN C at_ k)) ∧ dp = .int .i64 (Cd.restDeep deep (casesN C at_ k)) ∧ Hid (∀ o ∈ casesN C at_ k, o.d = 29 ∨ o.d = 30)) (fun _ _ i _ => n - (intOf i).toNat)
  case atStart => exact ⟨Below.refl _ _, 0, by omega, rfl, by simp [casesN, Cd.othersOf], by simp [casesN, Cd.restDeep], Lib.hid (by simp [casesN])⟩
  case round =>
    obtain ⟨hbel, k, hk, rfl, rfl, rfl, Hall⟩ := hrel
    have hz := hbel.size
    have hplr : p < wr.heap.size := by omega
    have hblr : b < wr.heap.size := by omega
    clear c0 c1 c2 c3
    by_cases hkn : k < n
    · obtain ⟨e1, e2, e3⟩ := Hcell.out k hkn
      have k1 := (hbel.cell (p := ⟨b, o + (at_ + 1) * 3 + k * 3, none⟩) hbl).trans e1
      have k2 := (hbel.cell (p := ⟨b, o + (at_ + 1) * 3 + k * 3 + 1, none⟩) hbl).trans e2
      have k3 := (hbel.cell (p := ⟨b, o + (at_ + 1) * 3 + k * 3 + 2, none⟩) hbl).trans e3
      have hoa := (Cd.rangeB_pos (Hr.out _ (opAt_mem (C := C) (i := at_ + 1 + k) (by omega)))).2.1
      have hlen : (casesN C at_ k).length = k := casesN_length (by omega)
      have hsucc := casesN_succ (C := C) (at_ := at_) (k := k) (by omega)
      have hol := othersOf_le (casesN C at_ k)
      have hrd := restDeep_bd (casesN C at_ k) deep (fun y hy h29 => by have := (Cd.rangeB_pos (Hr.out _ (casesN_mem hy))).2.1 (Or.inl h29); omega)
      have hos := othersOf_snoc (casesN C at_ k) (Cd.opAt C (at_ + 1 + k))
      have hrs := restDeep_snoc (casesN C at_ k) deep (Cd.opAt C (at_ + 1 + k))
      have hall2 : (Cd.opAt C (at_ + 1 + k)).d = 29 ∨ (Cd.opAt C (at_ + 1 + k)).d = 30 → ∀ y ∈ casesN C at_ k ++ [Cd.opAt C (at_ + 1 + k)], y.d = 29 ∨ y.d = 30 := by
        intro h y hy
        rcases List.mem_append.1 hy with hy | hy
        · exact Hall.out y hy
        · obtain rfl : y = _ := by simpa using hy
          exact h
      have hbad := Lib.hid (fun h1 h2 => choose_other (C := C) (at_ := at_) (k := k) (deep := deep) (by have := Hna.out; omega) (by have := Hna.out; omega) (by omega) h1 h2)
      rw [hlen] at hol hrd
      generalize Cd.opAt C (at_ + 1 + k) = ov at *
      generalize Cd.othersOf (casesN C at_ k) = x at *
      generalize Cd.restDeep deep (casesN C at_ k) = y at *
      have Hsucc := Lib.hid hsucc
      have Hos := Lib.hid hos
      have Hrs := Lib.hid hrs
      have Hall2 := Lib.hid hall2
      clear e1 e2 e3 hlen hsucc hos hrs hall2
      by_cases h29 : ov.d = 29
      · obtain ⟨_, _, a0, a1⟩ := hoa (Or.inl h29)
        have h29b : (ov.d == 29) = true := by simp [h29]
        have H29 := Lib.hid h29
        clear h29 hoa
        go_wp2
        go_roundw
        case rel => exact ⟨hbel.alloc hz _, k + 1, by omega, by go_num, by rw [Hsucc.out, Hos.out, if_neg (by rw [H29.out]; decide)]; go_num, by rw [Hsucc.out, Hrs.out, if_pos H29.out], Lib.hid (by rw [Hsucc.out]; exact Hall2.out (Or.inl H29.out))⟩
        case measure => simp [intOf]; omega
      · have h29b : (ov.d == 29) = false := by simp [h29]
        by_cases h30 : ov.d = 30
        · have h30b : (ov.d == 30) = true := by simp [h30]
          have H30 := Lib.hid h30
          have H29 := Lib.hid h29
          clear h30 h29 hoa
          go_wp2
          go_roundw
          case rel => exact ⟨hbel.alloc hz _, k + 1, by omega, by go_num, by rw [Hsucc.out, Hos.out, if_pos H30.out]; go_num, by rw [Hsucc.out, Hrs.out, if_neg H29.out], Lib.hid (by rw [Hsucc.out]; exact Hall2.out (Or.inr H30.out))⟩
          case measure => simp [intOf]; omega
        · have h30b : (ov.d == 30) = false := by simp [h30]
          have hn1 := Lib.hid (hbad.out h29 h30)
          clear h30 h29 hoa
          go_wp2
          go_returns
          rw [hn1.out]
          exact DoPost.none ((HW.out.below hbel).alloc _) (Keep.of (hbel.alloc (by omega) _) (by omega) hNle)
    · obtain rfl : k = n := by omega
      have hcs : casesN C at_ k = Cd.casesOf C at_ := by rw [casesN_all, Hna.out, Int.toNat_natCast]
      rw [hcs] at Hall
      have Hcs := Lib.hid hcs
      have hlen : (Cd.casesOf C at_).length = k := by rw [← hcs]; exact casesN_length (by omega)
      have hol := othersOf_le (Cd.casesOf C at_)
      have hrd := restDeep_bd (Cd.casesOf C at_) deep (fun y hy h29 => by rw [casesN_all] at hy; have := (Cd.rangeB_pos (Hr.out _ (casesN_mem hy))).2.1 (Or.inl h29); omega)
      rw [hlen] at hol hrd
      have Hlen := Lib.hid hlen
      rw [hcs]
      clear hcs hlen
      have hmany := @choose_many C at_ deep
      have hsome := @choose_some C at_ deep (by have := Hna.out; omega) Hall.out
      generalize Cd.othersOf (Cd.casesOf C at_) = x at *
      generalize hy : Cd.restDeep deep (Cd.casesOf C at_) = y at *
      have Hy := Lib.hid hy
      have Hmany := Lib.hid hmany
      have Hsome := Lib.hid hsome
      clear hy hmany hsome
      by_cases hx1 : 1 < x
      · have hno := Lib.hid (Hmany.out (Or.inl hx1))
        go_wp2
        go_returns
        rw [hno.out]
        exact DoPost.none (HW.out.below hbel) (Keep.of hbel (by omega) hNle)
      by_cases hy0 : y < 0
      · have hno := Lib.hid (Hmany.out (Or.inr hy0))
        go_wp2
        go_returns
        rw [hno.out]
        exact DoPost.none (HW.out.below hbel) (Keep.of hbel (by omega) hNle)
      have Hres := Lib.hid (Hsome.out hx1 hy0)
      go_wp2
      obtain ⟨wo, rfl⟩ : ∃ wo : World, wo = wr := ⟨_, rfl⟩
      go_loopw [74] (fun i wr => ∃ j : Nat, j ≤ k ∧ i = .int .i64 j ∧ Keep B N p w wr ∧ w.heap.size ≤ wr.heap.size ∧ Hid ((Cd.leads D W ((casesN C at_ j).map (Cd.caseTo y))).1 = true) ∧ Hid (ChkSt B N r wr p (.slice (some ⟨b, o, none⟩) C.ops.length co) vf vk (Cd.leads D W ((casesN C at_ j).map (Cd.caseTo y))).2.1 (Cd.leads D W ((casesN C at_ j).map (Cd.caseTo y))).2.2)) (fun i _ => k - (intOf i).toNat)
      case atStart => exact ⟨0, by omega, rfl, Keep.of hbel (by omega) hNle, hz, Lib.hid rfl, Lib.hid (HW.out.below hbel)⟩
      case round =>
        clear hplr hblr
        obtain ⟨j, hj, rfl, hb2, hz2, hT, HWk⟩ := hrel
        have hplr := HWk.out.lt
        have hblr : b < wr.heap.size := by omega
        by_cases hjk : j < k
        · obtain ⟨e1, e2, e3⟩ := Hcell.out j hjk
          have k1 := (hb2.low.cell (p := ⟨b, o + (at_ + 1) * 3 + j * 3, none⟩) hbB).trans e1
          have k2 := (hb2.low.cell (p := ⟨b, o + (at_ + 1) * 3 + j * 3 + 1, none⟩) hbB).trans e2
          have k3 := (hb2.low.cell (p := ⟨b, o + (at_ + 1) * 3 + j * 3 + 2, none⟩) hbB).trans e3
          obtain ⟨rest, hsplit⟩ := casesN_split (C := C) (at_ := at_) (j := j) (n := k) (by omega) (by omega)
          have hin : Cd.opAt C (at_ + 1 + j) ∈ Cd.casesOf C at_ := by rw [← Hcs.out, hsplit]; simp
          obtain ⟨b0, b1, a0, a1⟩ := (Cd.rangeB_pos (Hr.out _ (opAt_mem (C := C) (i := at_ + 1 + j) (by omega)))).2.1 (Hall.out _ hin)
          have hsuc0 := casesN_succ (C := C) (at_ := at_) (k := j) (by omega)
          have hD1 : (Cd.leads D W ((casesN C at_ j).map (Cd.caseTo y))).2.1.length = C.ops.length := by rw [leads_len]; exact Hn.out
          have HDk0 := Lib.hid hD1
          have hops2 := Lib.hid (Hops.out.below hb2.low (Nat.le_refl B))
          have hend : Hid ((Cd.casesOf C at_).map (Cd.caseTo y) = (casesN C at_ j).map (Cd.caseTo y) ++ Cd.caseTo y (Cd.opAt C (at_ + 1 + j)) :: rest.map (Cd.caseTo y)) := Lib.hid (by rw [← Hcs.out, hsplit]; simp)
          have hsucc0 : Hid ((casesN C at_ (j + 1)).map (Cd.caseTo y) = (casesN C at_ j).map (Cd.caseTo y) ++ [Cd.caseTo y (Cd.opAt C (at_ + 1 + j))]) := Lib.hid (by rw [hsuc0]; simp)
          clear e1 e2 e3 hsplit hin hsuc0 hD1
          generalize Cd.opAt C (at_ + 1 + j) = ov at *
          obtain ⟨D1, e1⟩ : ∃ D1, Hid ((Cd.leads D W ((casesN C at_ j).map (Cd.caseTo y))).2.1 = D1) := ⟨_, Lib.hid rfl⟩
          obtain ⟨W1, e2⟩ : ∃ W1, Hid ((Cd.leads D W ((casesN C at_ j).map (Cd.caseTo y))).2.2 = W1) := ⟨_, Lib.hid rfl⟩
          have HDk : Hid (D1.length = C.ops.length) := Lib.hid (by rw [← e1.out]; exact HDk0.out)
          rw [e1.out, e2.out] at HWk
          clear HDk0
          by_cases hc : ov.d = 29 ∧ ov.a = 0
          · obtain ⟨hc1, hc2⟩ := hc
            have h29b : (ov.d == 29) = true := by simp [hc1]
            have ha0b : (ov.a == 0) = true := by simp [hc2]
            have ecase : Cd.caseTo y ov = (ov.b, y + 1) := by unfold Cd.caseTo; rw [if_pos ⟨hc1, hc2⟩]
            have hsucc := hsucc0
            rw [ecase] at hsucc
            have hbad : Hid (Cd.leadOK (Cd.leads D W ((casesN C at_ j).map (Cd.caseTo y))).2.1 ov.b (y + 1) = false → (Cd.leads D W ((Cd.casesOf C at_).map (Cd.caseTo y))).1 = false) := Lib.hid (fun h => by rw [hend.out, ecase]; exact leads_fail h)
            clear hc1 hc2 ecase hsucc0 hend
            cases hok : Cd.leadOK D1 ov.b (y + 1) with
            | true =>
              obtain ⟨n1, n2, n3⟩ := leads_next (x := (ov.b, (y + 1))) hT.out (by rw [e1.out]; exact hok)
              rw [← hsucc.out] at n1 n2 n3
              have N1 := Lib.hid n1
              have N2 := Lib.hid n2
              have N3 := Lib.hid n3
              clear n1 n2 n3
              have hcl := Lib.hid (plead_int B N r p (wr.alloc (.cells #[.int .i64 ov.d, .int .i64 ov.a, .int .i64 ov.b] 68)) _ vf vk C.ops D1 W1 ov.b (y + 1) (HWk.out.alloc _) (hops2.out.below ((Below.refl _ _).alloc (Nat.le_refl _) _) (by omega)) HDk.out b0 (by omega))
              rw [hok] at hcl
              clear hok
              go_wp2_with (go_at_call 21; refine hcl.out.mono ?_; rintro e w3 ⟨rfl, hW3, hb3⟩; have HW3 := Lib.hid hW3; clear hW3)
              go_roundw
              case rel => exact ⟨j + 1, by omega, by go_num, (hb2.step ((Below.refl _ _).alloc (Nat.le_refl _) _) (by omega) (by omega)).trans hb3, by have := hb3.size; simp at this; omega, N1, Lib.hid (by rw [N2.out, N3.out, e1.out, e2.out]; exact HW3.out)⟩
              case measure => simp [intOf]; omega
            | false =>
              have hfail := Lib.hid (hbad.out (by rw [e1.out]; exact hok))
              have hcl := Lib.hid (plead_int B N r p (wr.alloc (.cells #[.int .i64 ov.d, .int .i64 ov.a, .int .i64 ov.b] 68)) _ vf vk C.ops D1 W1 ov.b (y + 1) (HWk.out.alloc _) (hops2.out.below ((Below.refl _ _).alloc (Nat.le_refl _) _) (by omega)) HDk.out b0 (by omega))
              rw [hok] at hcl
              clear hok
              go_wp2_with (go_at_call 21; refine hcl.out.mono ?_; rintro e w3 ⟨rfl, hW3, hb3⟩; have HW3 := Lib.hid hW3; clear hW3)
              go_returns
              rw [Hres.out]
              exact ⟨false, _, _, rfl, HW3.out, (fun h => by cases h), (fun l h => by cases h; exact ⟨hfail.out.symm, fun h => by cases h⟩), (hb2.step ((Below.refl _ _).alloc (Nat.le_refl _) _) (by omega) (by omega)).trans hb3⟩
          · have ecase : Cd.caseTo y ov = (ov.b, y) := by unfold Cd.caseTo; rw [if_neg hc]; simp
            have hsucc := hsucc0
            rw [ecase] at hsucc
            have hbad : Hid (Cd.leadOK (Cd.leads D W ((casesN C at_ j).map (Cd.caseTo y))).2.1 ov.b y = false → (Cd.leads D W ((Cd.casesOf C at_).map (Cd.caseTo y))).1 = false) := Lib.hid (fun h => by rw [hend.out, ecase]; exact leads_fail h)
            clear ecase hsucc0 hend
            have hcd : (ov.d == 29) = true ∧ (ov.a == 0) = false ∨ (ov.d == 29) = false := by
              by_cases h29 : ov.d = 29
              · exact Or.inl ⟨by simp [h29], by simp; exact fun h => hc ⟨h29, h⟩⟩
              · exact Or.inr (by simp [h29])
            clear hc
            rcases hcd with ⟨h29b, ha0b⟩ | h29b
            all_goals
              cases hok : Cd.leadOK D1 ov.b y with
              | true =>
                obtain ⟨n1, n2, n3⟩ := leads_next (x := (ov.b, y)) hT.out (by rw [e1.out]; exact hok)
                rw [← hsucc.out] at n1 n2 n3
                have N1 := Lib.hid n1
                have N2 := Lib.hid n2
                have N3 := Lib.hid n3
                clear n1 n2 n3
                have hcl := Lib.hid (plead_int B N r p (wr.alloc (.cells #[.int .i64 ov.d, .int .i64 ov.a, .int .i64 ov.b] 68)) _ vf vk C.ops D1 W1 ov.b y (HWk.out.alloc _) (hops2.out.below ((Below.refl _ _).alloc (Nat.le_refl _) _) (by omega)) HDk.out b0 (by omega))
                rw [hok] at hcl
                clear hok
                go_wp2_with (go_at_call 21; refine hcl.out.mono ?_; rintro e w3 ⟨rfl, hW3, hb3⟩; have HW3 := Lib.hid hW3; clear hW3)
                go_roundw
                case rel => exact ⟨j + 1, by omega, by go_num, (hb2.step ((Below.refl _ _).alloc (Nat.le_refl _) _) (by omega) (by omega)).trans hb3, by have := hb3.size; simp at this; omega, N1, Lib.hid (by rw [N2.out, N3.out, e1.out, e2.out]; exact HW3.out)⟩
                case measure => simp [intOf]; omega
              | false =>
                have hfail := Lib.hid (hbad.out (by rw [e1.out]; exact hok))
                have hcl := Lib.hid (plead_int B N r p (wr.alloc (.cells #[.int .i64 ov.d, .int .i64 ov.a, .int .i64 ov.b] 68)) _ vf vk C.ops D1 W1 ov.b y (HWk.out.alloc _) (hops2.out.below ((Below.refl _ _).alloc (Nat.le_refl _) _) (by omega)) HDk.out b0 (by omega))
                rw [hok] at hcl
                clear hok
                go_wp2_with (go_at_call 21; refine hcl.out.mono ?_; rintro e w3 ⟨rfl, hW3, hb3⟩; have HW3 := Lib.hid hW3; clear hW3)
                go_returns
                rw [Hres.out]
                exact ⟨false, _, _, rfl, HW3.out, (fun h => by cases h), (fun l h => by cases h; exact ⟨hfail.out.symm, fun h => by cases h⟩), (hb2.step ((Below.refl _ _).alloc (Nat.le_refl _) _) (by omega) (by omega)).trans hb3⟩
        · obtain rfl : j = k := by omega
          go_wp2
          go_returns
          rw [Hres.out]
          rw [Hcs.out] at hT HWk
          exact ⟨true, _, _, rfl, HWk.out, (fun h => by cases h), (fun l h => by cases h; exact ⟨hT.out.symm, fun _ => ⟨rfl, rfl⟩⟩), hb2⟩
end Go.Proofs.Ytjomajfgoaifbaa
