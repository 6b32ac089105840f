/-
  PROVED HERE: the reference's parser: programs. No condition beyond the lemmas' own premises. (Printed by psr2.py.)
-/
import Derived.Test.YtjickecdkmljpaaGreatDoorRsSx
namespace Go.Proofs.YtjickecdkmljpaaGreatDoor.R
open Go.RowKit

section
variable {N p : Nat} {w : World} {X : Ps.Src} {S : ByteArray} {s : Rs.St} {tv nv : Value} {D : List (Ps.Nd × Value)}
def programP (X : Ps.Src) (n : Nat) (s : Rs.St) : Rs.Res := (Rs.run X n (.decls []) s).bind fun l s1 => Rs.put ⟨15, (Rs.now X s).pos, 0, [], l⟩ s1
/-- Is there nothing more to be read? -/
def overT (X : Ps.Src) (s : Rs.St) : Bool := !(decide (s.p.i < X.toks.length) && !Rs.isWrong s)
theorem ov1 {X : Ps.Src} {s : Rs.St} (h : ¬ s.p.i < X.toks.length) : overT X s = true := by unfold overT; simp [h]
theorem ov2 {X : Ps.Src} {s : Rs.St} (h : Rs.isWrong s = true) : overT X s = true := by unfold overT; simp [h]
theorem ov0 {X : Ps.Src} {s : Rs.St} (h : s.p.i < X.toks.length) (h2 : Rs.isWrong s = false) : overT X s = false := by unfold overT; simp [h, h2]
theorem lpD {wk : World} {pl : Rs.Res} {L : List It} {m : Nat} {acc : List Nat} {g : List Nat → Rs.St → Rs.Res} (h : s.p.i < X.toks.length) (h2 : Rs.isWrong s = false) (HG : Hid (Sx N p X S w tv nv D pl wk s L ((Rs.run X (m + 1) (.decls acc) s).bind g))) : Hid (Sx N p X S w tv nv D pl wk s L (((Rs.declF X (Rs.run X m) s).bind fun k s1 => if s1.p.i < X.toks.length then (Rs.take X Ps.k_semi s1).bind fun _ s2 => Rs.run X m (.decls (acc ++ k)) s2 else Rs.run X m (.decls (acc ++ k)) s1).bind g)) := re (congrArg (fun r => Rs.Res.bind r g) (if_pos (by simp [h, h2]))) HG
set_option maxRecDepth 100000 in
set_option maxHeartbeats 8000000 in
theorem rpprogram_any (n : Nat) (hn : n ≤ 1000000) (HDC : Hid (∀ m, m < n → Cn X S 56 (Rs.declF X (Rs.run X m)))) : POk X S 29 unitV (programP X n) := by
 intro N p w s tv nv D h hne
 have HG := x0 h hne (by unfold programP;exact rfl);clear h hne;obtain ⟨ta, tc, rfl⟩ := tl_ HG
 go_enter Tryz.func29, Tryz.ntmps29
 go_wp2_with fail
 revert HG;refine now_ fun w1 HG => ?_;generalize Rs.now X s = t at HG ⊢
 replace HG := tbR t #[.int .i64 15, .int .i64 (t.pos : Int), .int .i64 0, .string ⟨#[]⟩, .slice none 0 0] 41 HG
 go_wp2_with fail
 replace HG := gn HG;obtain ⟨w2,e,HG⟩ := HG;rw [e];clear e
 replace HG := po (sw HG)
 replace HG := lpI (t := overT X) (lp := (fun m a s => Rs.run X m (.decls a) s)) (g := (fun l s1 => Rs.put ⟨15, t.pos, 0, [], l⟩ s1)) (fun _ _ => rfl) (fun m a s h => if_neg (fun hc => by unfold overT at h; rw [hc] at h; cases h)) HG
 go_loopg [10] n (fun m _ wr => ∃ (acc : List Nat) (sk : Rs.St) (ua : Option Addr) (uc : Nat), acc.length + m = n ∧ Hid (Sx N p X S w (.slice ta X.toks.length tc) nv D (programP X n s) wr sk [.kd (.slice ua acc.length uc) acc, .bx (w1.heap.size + 1) #[.int .i64 15, .int .i64 (t.pos : Int), .int .i64 0, .string ⟨#[]⟩, .slice ua acc.length uc] 41] ((Lp (overT X) (fun m a s => Rs.run X m (.decls a) s) m acc sk).bind (fun l s1 => Rs.put ⟨15, t.pos, 0, [], l⟩ s1))))
 case atStart => exact ⟨[], _, none, 0, by simp, k0 HG⟩
 case round =>
  clear HG;obtain ⟨acc, sk, ua, uc, hacc, HG⟩ := hrel;have hlen : ∀ a, (acc ++ [a]).length = acc.length + 1 := fun a => by simp
  go_wp2_with fail
  obtain ⟨b1,b2,b3,b4,b5,b6⟩ := pc HG;obtain ⟨wb, hw⟩ : ∃ b, Rs.isWrong sk = b := ⟨_, rfl⟩;rw [hw] at b4
  by_cases hlt : sk.p.i < X.toks.length
  ·cases wb with
   | true =>
    have wj : decide ((sk.p.i : Int) < (X.toks.length : Int)) = true := by simp; omega
    refine wp_region_held_drew (S := fun v => v.cell? ⟨p, 2, none⟩ = some (.int .i64 (sk.p.i : Int)) ∧ v.cell? ⟨p, 1, none⟩ = some (.slice ta X.toks.length tc) ∧ v.cell? ⟨p, 7, none⟩ = some (.bool true)) (by kernel_rfl) ⟨b2, b1, b4⟩ fun hHeld => ?_
    refine tk 0 ?_;refine tk 1 ?_;refine tk 2 ?_;refine tk 3 ?_;refine tk 4 ?_;refine tk 5 ?_;refine tk 6 ?_;refine tk 7 ?_;refine tk 8 ?_;refine tk 9 ?_;refine tk 10 ?_;refine tk 11 ?_;refine tk 12 ?_;refine tk 13 ?_;refine tk 14 ?_;refine tk 15 ?_;refine tk 16 ?_
    refine wpAnyH_done (by kernel_rfl) ?_ _;clear wj hHeld b1 b2 b3 b4 b5 b6;replace HG := dw HG
    replace HG := gn HG;obtain ⟨w3,e,HG⟩ := HG;rw [e];clear e
    replace HG := lpO (ov2 hw) HG;clear hw
    have c := ce1 HG
    go_wp2_with fail
    revert HG;refine pu fun b4 w4 s4 HG => ?_
    exact en
   | false =>
    have wj : decide ((sk.p.i : Int) < (X.toks.length : Int)) = true := by simp; omega
    refine wp_region_held_drew (S := fun v => v.cell? ⟨p, 2, none⟩ = some (.int .i64 (sk.p.i : Int)) ∧ v.cell? ⟨p, 1, none⟩ = some (.slice ta X.toks.length tc) ∧ v.cell? ⟨p, 7, none⟩ = some (.bool false)) (by kernel_rfl) ⟨b2, b1, b4⟩ fun hHeld => ?_
    refine tk 0 ?_;refine tk 1 ?_;refine tk 2 ?_;refine tk 3 ?_;refine tk 4 ?_;refine tk 5 ?_;refine tk 6 ?_;refine tk 7 ?_;refine tk 8 ?_;refine tk 9 ?_;refine tk 10 ?_;refine tk 11 ?_;refine tk 12 ?_;refine tk 13 ?_;refine tk 14 ?_;refine tk 15 ?_;refine tk 16 ?_
    refine wpAnyH_done (by kernel_rfl) ?_ _;clear wj hHeld b1 b2 b3 b4 b5 b6;replace HG := dw HG
    replace HG := gn HG;obtain ⟨w5,e,HG⟩ := HG;rw [e];clear e
    replace HG := lpG (ov0 hlt hw) HG;obtain ⟨m, rfl⟩ := lpN (lp := (fun m a s => Rs.run X m (.decls a) s)) (fun _ _ => rfl) HG;have hmn : m < n := (by omega);replace HG := re (bind_assoc _ _ _) (lpD hlt hw HG);clear hlt hw
    go_wp2_with fail
    revert HG;refine c1 (HDC.out m hmn) fun a6 w6 s6 HG => ?_
    have c := ce1 HG
    go_wp2_with (at_builtin; revert HG;refine apL a6 (show acc.length ≤ 1000000 by omega) fun g7 g7c w7 HG => ?_;clear c;have c := ce1 HG)
    replace HG := so1 4 (.slice (some ⟨g7, 0, none⟩) (acc.length + 1) g7c) HG
    replace HG := gn HG;obtain ⟨w8,e,HG⟩ := HG;rw [e];clear e
    clear c
    by_cases hlt : s6.p.i < X.toks.length
    ·replace HG := re (bind_assoc _ _ _) (re (congrArg (fun r => Rs.Res.bind r _) (if_pos hlt)) HG)
     have wj : decide ((s6.p.i : Int) < (X.toks.length : Int)) = true := by simp; omega
     obtain ⟨b1,b2,b3,b4,b5,b6⟩ := pc HG
     refine wp_region_held_drew (S := fun v => v.cell? ⟨p, 2, none⟩ = some (.int .i64 (s6.p.i : Int)) ∧ v.cell? ⟨p, 1, none⟩ = some (.slice ta X.toks.length tc)) (by kernel_rfl) ⟨b2, b1⟩ fun hHeld => ?_
     refine tk 0 ?_;refine tk 1 ?_;refine tk 2 ?_;refine tk 3 ?_;refine tk 4 ?_;refine tk 5 ?_;refine tk 6 ?_;refine tk 7 ?_;refine tk 8 ?_;refine tk 9 ?_
     refine wpAnyH_done (by kernel_rfl) ?_ _;clear wj hHeld b1 b2 b3 b4 b5 b6;replace HG := dw HG
     replace HG := gn HG;obtain ⟨w9,e,HG⟩ := HG;rw [e];clear e
     clear hlt
     go_wp2_with fail
     revert HG;refine take_ Ps.k_semi fun w10 s10 HG => ?_
     replace HG := lpI (t := overT X) (lp := (fun m a s => Rs.run X m (.decls a) s)) (g := (fun l s1 => Rs.put ⟨15, t.pos, 0, [], l⟩ s1)) (fun _ _ => rfl) (fun m a s h => if_neg (fun hc => by unfold overT at h; rw [hc] at h; cases h)) HG
     go_wp2
     go_roundg m
     case rel => exact ⟨acc ++ [a6], _, _, _, by rw [hlen]; omega, by rw [hlen]; exact HG⟩
     case measure => omega
    replace HG := re (congrArg (fun r => Rs.Res.bind r _) (if_neg hlt)) HG
    have wj : decide ((s6.p.i : Int) < (X.toks.length : Int)) = false := by simp; omega
    obtain ⟨b1,b2,b3,b4,b5,b6⟩ := pc HG
    refine wp_region_held_drew (S := fun v => v.cell? ⟨p, 2, none⟩ = some (.int .i64 (s6.p.i : Int)) ∧ v.cell? ⟨p, 1, none⟩ = some (.slice ta X.toks.length tc)) (by kernel_rfl) ⟨b2, b1⟩ fun hHeld => ?_
    refine tk 0 ?_;refine tk 1 ?_;refine tk 2 ?_;refine tk 3 ?_;refine tk 4 ?_;refine tk 5 ?_;refine tk 6 ?_;refine tk 7 ?_;refine tk 8 ?_;refine tk 9 ?_
    refine wpAnyH_done (by kernel_rfl) ?_ _;clear wj hHeld b1 b2 b3 b4 b5 b6;replace HG := dw HG
    replace HG := gn HG;obtain ⟨w11,e,HG⟩ := HG;rw [e];clear e
    clear hlt
    replace HG := lpI (t := overT X) (lp := (fun m a s => Rs.run X m (.decls a) s)) (g := (fun l s1 => Rs.put ⟨15, t.pos, 0, [], l⟩ s1)) (fun _ _ => rfl) (fun m a s h => if_neg (fun hc => by unfold overT at h; rw [hc] at h; cases h)) HG
    go_wp2
    go_roundg m
    case rel => exact ⟨acc ++ [a6], _, _, _, by rw [hlen]; omega, by rw [hlen]; exact HG⟩
    case measure => omega
  have wj : decide ((sk.p.i : Int) < (X.toks.length : Int)) = false := by simp; omega
  refine wp_region_held_drew (S := fun v => v.cell? ⟨p, 2, none⟩ = some (.int .i64 (sk.p.i : Int)) ∧ v.cell? ⟨p, 1, none⟩ = some (.slice ta X.toks.length tc) ∧ v.cell? ⟨p, 7, none⟩ = some (.bool wb)) (by kernel_rfl) ⟨b2, b1, b4⟩ fun hHeld => ?_
  refine tk 0 ?_;refine tk 1 ?_;refine tk 2 ?_;refine tk 3 ?_;refine tk 4 ?_;refine tk 5 ?_;refine tk 6 ?_;refine tk 7 ?_;refine tk 8 ?_;refine tk 9 ?_;refine tk 10 ?_;refine tku 11 ?_;refine tku 12 ?_;refine tku 13 ?_;refine tku 14 ?_;refine tku 15 ?_;refine tk 16 ?_
  refine wpAnyH_done (by kernel_rfl) ?_ _;clear wj hHeld b1 b2 b3 b4 b5 b6;replace HG := dw HG
  replace HG := gn HG;obtain ⟨w12,e,HG⟩ := HG;rw [e];clear e
  replace HG := lpO (ov1 hlt) HG;clear hw
  have c := ce1 HG
  go_wp2_with fail
  revert HG;refine pu fun b13 w13 s13 HG => ?_
  exact en
end
end Go.Proofs.YtjickecdkmljpaaGreatDoor.R
