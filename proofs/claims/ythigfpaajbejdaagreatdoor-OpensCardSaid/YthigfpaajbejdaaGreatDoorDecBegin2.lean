/-
  flac.decoder.begin, walked: the blocks of metadata.
-/
import Derived.Test.YthigfpaajbejdaaGreatDoorDecBegin
namespace Go.Proofs.YthigfpaajbejdaaGreatDoor
open Go.RowKit

set_option maxRecDepth 100000 in
set_option maxHeartbeats 4000000 in
theorem begin_run_s {B : Nat} {w : World} {db rb bs hb : Nat} {k0 k1 k2 : Value} {c : Cfg} {S : List Nat} (hk : LimOk c) (hd : DecF 230 w db rb hb k0 k1 k2 (fun _ => 0) ⟨#[]⟩ (-1) 0) (h : RdS false B w rb bs c 0 S) (hdb : db ∉ S) (hB : B ≤ db) (hL : 4 ≤ c.lim.1) (hmk : c.markText = [102, 76, 97, 67]) {R : OpenRes} (hR0 : Hid (R = c.openGo (c.lim.1 + 1) 0 4)) :
    Calls Tryz.prog 80 #[.pointer (some ⟨db, 0, none⟩)] w (BeginPost false 230 B db rb bs hb k0 k1 k2 c R S w) := by
  have hm : ∀ (a : Addr) (w : World), (Go.method 464 230 (.pointer (some a)) "At").run Tryz.prog w = .ok (245, .pointer (some a)) w := fun a w => by kernel_rfl
  have hcall := Hid.mk2 (bytes_ok_s (j := 0) (n := 4) hk hd h rfl hdb (by decide) (by omega) (z := 4) rfl)
  have hM0 := Hid.mk2 (MovT.start h [db])
  obtain ⟨t, ht⟩ : ∃ t, t = c.text.extract 0 4 := ⟨_, rfl⟩
  simp only [Nat.reduceAdd, Nat.reduceMul, Nat.zero_add, ← ht] at hcall
  unfold Cfg.markText at hmk
  rw [← ht] at hmk
  have hmt := mark_yes hmk
  have hwe := wantE_ne hk.stop
  obtain ⟨hh, hlf⟩ := errV_leaf hwe.1
  have hln := hlf.nnil
  have hwe' := Hid.mk2 hwe
  have hln0 := hk.len
  have hbn := fun W S1 j i sm (hd : DecF 230 W db rb hb k0 k1 k2 i sm (-1) (j : Nat)) (hr : RdS false B W rb bs c (8 * j) S1) (hdb : db ∉ S1) (hj : j ≤ c.lim.1) (h4 : c.lim.1 < j + 4) => Hid.mk2 (bytes_not_s (n := 4) hk hd hr rfl hdb (by decide) hj h4 (z := 4) rfl)
  have hbo := fun W S1 j i sm (hd : DecF 230 W db rb hb k0 k1 k2 i sm (-1) (j : Nat)) (hr : RdS false B W rb bs c (8 * j) S1) (hdb : db ∉ S1) (h4 : j + 4 ≤ c.lim.1) => Hid.mk2 (bytes_ok_s (n := 4) hk hd hr rfl hdb (by decide) h4 (z := 4) rfl)
  have hlim : c.lim.1 ≤ 1048576 := by have := hk.small; omega
  unfold BeginPost
  clear ht hmk hlf hwe
  go_enter Tryz.func80, Tryz.ntmps80
  go_wp2_with (go_at_call 112; (with_reducible refine (hcall.out).mono ?_); rintro e w1 ⟨rfl, hm1⟩)
  have hd0 : DecF 230 w1 db rb hb k0 k1 k2 (fun _ => 0) ⟨#[]⟩ (-1) 0 := hm1.1.blk hd.blk hdb
  have hB1 : Hid (BRun false 230 B db rb bs hb k0 k1 k2 c R S w w1 (c.lim.1 + 1 + 1) 0 false) := by
    obtain ⟨S2, hM2⟩ := hM0.out.step hm1
    exact ⟨_, S2, _, _, _, hM2, hd0, .inl ⟨c.lim.1 + 1, 4, rfl, rfl, hR0.out, by omega, hL, Nat.zero_le _, rfl, fun _ => rfl, fun h => absurd rfl h⟩⟩
  have hdl := hd.blk.lt
  clear hcall hm1 hd0 hR0
  go_loopg [5, 6] (c.lim.1 + 1 + 1) (fun g s5 s6 wx => ∃ (k : Nat) (last : Bool), s5 = .int .i64 k ∧ s6 = .bool last ∧ Hid (BRun false 230 B db rb bs hb k0 k1 k2 c R S w wx g k last))
  case atStart => exact ⟨0, false, rfl, rfl, hB1⟩
  case round =>
    obtain ⟨k, last, rfl, rfl, hrun⟩ := hrel
    clear hB1
    obtain ⟨p, S1, i, sm, at_, hM, hd1, ⟨f, j, rfl, rfl, hR, hf, hj, hkj, rfl, hk0, hk1⟩ | ⟨j, rfl, rfl, hR, hj, hkl, rfl, rfl, rfl⟩⟩ := hrun.out
    · obtain ⟨f, rfl⟩ : ∃ f', f = f' + 1 := ⟨f - 1, by omega⟩
      have hM' := Hid.mk2 hM
      have hR' := Hid.mk2 hR
      have hk0' := Hid.mk2 hk0
      have hk1' := Hid.mk2 hk1
      have hfk := Hid.mk2 hf
      have hc1 := hd1.blk.cell
      have hat := Hid.mk2 (show Calls Tryz.prog 245 #[.pointer (some ⟨rb, 0, none⟩)] wr fun e w' => e = .returned (.int .i64 (8 * j : Nat)) ∧ ∃ n, w' = wr.drewN n from rdAt_any (q := false) hM.rd)
      have hp8 : ((8 * (j : Int)).tdiv 8) = (j : Int) := by rw [Int.tdiv_eq_ediv_of_nonneg (by omega)]; omega
      have hjs : j ≤ 1048576 := by omega
      have hdS1 : db ∉ S1 := hM.notin hdb hdl
      clear hR hk0 hk1 hf
      by_cases h4 : c.lim.1 < j + 4
      · have h4' := Hid.mk2 h4
        clear h4
        go_wp2_with (first
          | (go_at_call 245; (with_reducible refine (hat.out).mono ?_); rintro e w2 ⟨rfl, nd, rfl⟩; have hd2 : DecF 230 (wr.drewN nd) db rb hb k0 k1 k2 i sm (-1) at_ := hd1.blk.drewN nd; have hc2 := hd2.blk.cell; have hz2 := hd2.blk.frozen; have hd3 : DecF 230 ((wr.drewN nd).setCell ⟨db, 15, none⟩ (.int .i64 (j : Int))) db rb hb k0 k1 k2 i sm (-1) (j : Int) := hd2.blk.set 15 _; have hM3 := Hid.mk2 ((hM.also (Fr.drewN [] wr nd)).one (Fr.set (a := ⟨db, 15, none⟩) (.int .i64 (j : Int)) (List.mem_singleton.2 rfl)) hdb hdl hB))
          | (go_at_call 112; (with_reducible refine ((hbn _ _ _ _ _ hd3 hM3.out.rd hdS1 hj h4'.out).out).mono ?_); rintro e w3 ⟨rfl, p3, hm3⟩))
        go_ret
        obtain ⟨S2, hM4⟩ := hM3.out.step hm3
        exact ⟨p3, S2, i, sm, -1, j, hM4, hm3.1.blk hd3.blk hdS1, .inl ⟨wantE c.lim.2, j, hR'.out.trans (openGo_short h4'.out), hwe'.out.1, hwe'.out.2.2, rfl, rfl, rfl⟩⟩
      · have h4' : Hid (j + 4 ≤ c.lim.1) := by unfold Hid; omega
        have hsz := hd_size (c := c) (q := j) (n := 4) (by have := h4'.out; omega)
        obtain ⟨t2, ht2⟩ : ∃ t2, t2 = c.text.extract j (j + 4) := ⟨_, rfl⟩
        have hcall := fun W (hd : DecF 230 W db rb hb k0 k1 k2 i sm (-1) j) (hr : RdS false B W rb bs c (8 * j) S1) => hbo W S1 j i sm hd hr hdS1 h4'.out
        rw [← ht2] at hsz hcall
        have hjl : j + 4 ≤ c.len := by have := h4'.out; omega
        obtain ⟨b0, hb0⟩ : ∃ b, b = c.byte j := ⟨_, rfl⟩
        obtain ⟨b1, hb1⟩ : ∃ b, b = c.byte (j + 1) := ⟨_, rfl⟩
        obtain ⟨b2, hb2⟩ : ∃ b, b = c.byte (j + 2) := ⟨_, rfl⟩
        obtain ⟨b3, hb3⟩ : ∃ b, b = c.byte (j + 3) := ⟨_, rfl⟩
        have e0 : (t2[0]'(by omega)).toNat = b0 := (hd_at ht2 hjl 0 (by decide) _).trans hb0.symm
        have e1 : (t2[1]'(by omega)).toNat = b1 := (hd_at ht2 hjl 1 (by decide) _).trans hb1.symm
        have e2 : (t2[2]'(by omega)).toNat = b2 := (hd_at ht2 hjl 2 (by decide) _).trans hb2.symm
        have e3 : (t2[3]'(by omega)).toNat = b3 := (hd_at ht2 hjl 3 (by decide) _).trans hb3.symm
        have l0 : b0 < 256 := hb0 ▸ c.byte_lt j
        have l1 : b1 < 256 := hb1 ▸ c.byte_lt (j + 1)
        have l2 : b2 < 256 := hb2 ▸ c.byte_lt (j + 2)
        have l3 : b3 < 256 := hb3 ▸ c.byte_lt (j + 3)
        obtain ⟨la, hla⟩ : ∃ la, la = c.lastN j := ⟨_, rfl⟩
        obtain ⟨ki, hki⟩ : ∃ ki, ki = c.kindN j := ⟨_, rfl⟩
        obtain ⟨le, hle⟩ : ∃ le, le = c.lenN j := ⟨_, rfl⟩
        have hA : (bits .and .u8 (b0 : Int) 128 != 0) = decide (la = 1) := by rw [hd_is b0 l0, hla, hb0]; rfl
        have hK : bits .and .u8 (b0 : Int) 127 = (ki : Int) := by rw [hd_kind b0 l0, hki, hb0]; rfl
        have hN : bits .or .i64 (bits .or .i64 ((b1 : Int) * 65536) ((b2 : Int) * 256)) (b3 : Int) = (le : Int) := by rw [hd_len b1 b2 b3 l1 l2 l3, hle, hb1, hb2, hb3]; rfl
        have hlal : la < 2 := hla ▸ c.lastN_lt j
        have hkil : ki < 128 := hki ▸ c.kindN_lt j
        have hlel : le < 16777216 := hle ▸ c.lenN_lt j
        have hlk := Hid.mk2 (And.intro hla (And.intro hki hle))
        clear ht2 hb0 hb1 hb2 hb3 hla hki hle
        have hR2 := hR'.out
        by_cases hmb : metaBad k ki le = true
        · have hRb : Hid (R = .bad 5 j) := by
            obtain ⟨q1, q2, q3⟩ := hlk.out
            rw [q2, q3] at hmb
            exact hR2.trans (openGo_meta (by have := h4'.out; omega) hmb)
          have hw := meta_ways hmb
          clear hmb hR2
          rcases hw with ⟨hkt, g1⟩ | ⟨hkt, g1, g2⟩ | ⟨hkt, g1, g2, g3⟩ | ⟨hkt, g1⟩ | ⟨hkt, g1, g2⟩
          all_goals
            go_wp2_with (first
              | (go_at_call 245; (with_reducible refine (hat.out).mono ?_); rintro e w2 ⟨rfl, nd, rfl⟩; have hd2 : DecF 230 (wr.drewN nd) db rb hb k0 k1 k2 i sm (-1) at_ := hd1.blk.drewN nd; have hc2 := hd2.blk.cell; have hz2 := hd2.blk.frozen; have hd3 : DecF 230 ((wr.drewN nd).setCell ⟨db, 15, none⟩ (.int .i64 (j : Int))) db rb hb k0 k1 k2 i sm (-1) (j : Int) := hd2.blk.set 15 _; have hM3 := Hid.mk2 ((hM.also (Fr.drewN [] wr nd)).one (Fr.set (a := ⟨db, 15, none⟩) (.int .i64 (j : Int)) (List.mem_singleton.2 rfl)) hdb hdl hB))
              | (go_at_call 112; (with_reducible refine ((hcall _ hd3 hM3.out.rd).out).mono ?_); rintro e w3 ⟨rfl, hm3⟩; obtain ⟨S3, hM4x⟩ := hM3.out.step hm3; have hM4 := Hid.mk2 hM4x; clear hM4x; have hd4 : DecF 230 w3 db rb hb k0 k1 k2 i sm (-1) (j : Int) := hm3.1.blk hd3.blk hdS1; have hdS3 := hM4.out.notin hdb hdl; clear hm3))
            go_quiet (fail)
            go_wp2_with fail
            go_ret
            exact ⟨_, S3, i, sm, -1, j, hM4.out.also (Fr.drewN [] w3 _), hd4.blk.drewN _, .inl ⟨5, j, hRb.out, by decide, by decide, rfl, rfl, rfl⟩⟩
        · have hmb' : ¬ metaBad k (c.kindN j) (c.lenN j) = true := by
            obtain ⟨q1, q2, q3⟩ := hlk.out
            rw [← q2, ← q3]
            exact hmb
          have h4n : ¬ c.lim.1 < j + 4 := by have := h4'.out; omega
          rcases meta_no hmb with ⟨hkt, g1, g2, g3⟩ | ⟨hkt, g1, g2⟩
          · have hkz : k = 0 := by simpa using hkt
            have hj4 := hk0'.out hkz
            have hR3 := hR2.trans (openGo_first h4n hmb' hkz)
            have hbl := fun W S1 (hd : DecF 230 W db rb hb k0 k1 k2 i sm (-1) (j : Nat)) (hr : RdS false B W rb bs c (8 * (j + 4)) S1) (hdb : db ∉ S1) => Hid.mk2 (show Calls Tryz.prog 113 #[.pointer (some ⟨db, 0, none⟩), .int .i64 (k : Int), .int .i64 (le : Int)] W (StreamPost false 230 B db rb bs hb k0 k1 k2 (-1) (j : Nat) c S1 W) from by
              rw [hj4] at hr
              rw [hkz]
              exact block_first_s le hk hd hr hdb hB (by have := h4'.out; omega))
            rw [hj4] at hR3
            have hkz' := Hid.mk2 hkz
            have hj4' := Hid.mk2 hj4
            clear hR2 hmb hmb' h4n hkz hj4
            by_cases h42 : c.lim.1 < 42
            · have hRb : Hid (R = .bad (wantE c.lim.2) j) := by rw [if_pos h42] at hR3; rw [hj4'.out]; exact hR3
              clear hR3
              have h42' := Hid.mk2 h42
              clear h42
              go_wp2_with (first
                | (go_at_call 245; (with_reducible refine (hat.out).mono ?_); rintro e w2 ⟨rfl, nd, rfl⟩; have hd2 : DecF 230 (wr.drewN nd) db rb hb k0 k1 k2 i sm (-1) at_ := hd1.blk.drewN nd; have hc2 := hd2.blk.cell; have hz2 := hd2.blk.frozen; have hd3 : DecF 230 ((wr.drewN nd).setCell ⟨db, 15, none⟩ (.int .i64 (j : Int))) db rb hb k0 k1 k2 i sm (-1) (j : Int) := hd2.blk.set 15 _; have hM3 := Hid.mk2 ((hM.also (Fr.drewN [] wr nd)).one (Fr.set (a := ⟨db, 15, none⟩) (.int .i64 (j : Int)) (List.mem_singleton.2 rfl)) hdb hdl hB))
                | (go_at_call 112; (with_reducible refine ((hcall _ hd3 hM3.out.rd).out).mono ?_); rintro e w3 ⟨rfl, hm3⟩; obtain ⟨S3, hM4x⟩ := hM3.out.step hm3; have hM4 := Hid.mk2 hM4x; clear hM4x; have hd4 : DecF 230 w3 db rb hb k0 k1 k2 i sm (-1) (j : Int) := hm3.1.blk hd3.blk hdS1; have hdS3 := hM4.out.notin hdb hdl; clear hm3))
              go_quiet (fail)
              go_wp2_with (go_at_call 113; (with_reducible refine ((hbl _ _ (hd4.drewN _) (hM4.out.rd.still (Fr.drewN [] w3 _)) hdS3).out).mono ?_); rintro e w5 hs; obtain ⟨rfl, p5, S5, i5, sm5, hM5, hd5⟩ := hs.short h42'.out)
              go_ret
              exact ⟨p5, S5, i5, sm5, -1, _, (hM4.out.also (Fr.drewN [] w3 _)).comp hM5 (fun _ h => h), hd5, .inl ⟨wantE c.lim.2, j, hRb.out, hwe'.out.1, hwe'.out.2.2, rfl, rfl, rfl⟩⟩
            · rw [if_neg h42] at hR3
              have h42' : Hid (42 ≤ c.lim.1) := by unfold Hid; omega
              by_cases hib : c.infoBad = true
              · have hRb : Hid (R = .bad 4 j) := by rw [if_pos hib] at hR3; rw [hj4'.out]; exact hR3
                have hib' := Hid.mk2 hib
                clear hR3 h42 hib
                go_wp2_with (first
                  | (go_at_call 245; (with_reducible refine (hat.out).mono ?_); rintro e w2 ⟨rfl, nd, rfl⟩; have hd2 : DecF 230 (wr.drewN nd) db rb hb k0 k1 k2 i sm (-1) at_ := hd1.blk.drewN nd; have hc2 := hd2.blk.cell; have hz2 := hd2.blk.frozen; have hd3 : DecF 230 ((wr.drewN nd).setCell ⟨db, 15, none⟩ (.int .i64 (j : Int))) db rb hb k0 k1 k2 i sm (-1) (j : Int) := hd2.blk.set 15 _; have hM3 := Hid.mk2 ((hM.also (Fr.drewN [] wr nd)).one (Fr.set (a := ⟨db, 15, none⟩) (.int .i64 (j : Int)) (List.mem_singleton.2 rfl)) hdb hdl hB))
                  | (go_at_call 112; (with_reducible refine ((hcall _ hd3 hM3.out.rd).out).mono ?_); rintro e w3 ⟨rfl, hm3⟩; obtain ⟨S3, hM4x⟩ := hM3.out.step hm3; have hM4 := Hid.mk2 hM4x; clear hM4x; have hd4 : DecF 230 w3 db rb hb k0 k1 k2 i sm (-1) (j : Int) := hm3.1.blk hd3.blk hdS1; have hdS3 := hM4.out.notin hdb hdl; clear hm3))
                go_quiet (fail)
                go_wp2_with (go_at_call 113; (with_reducible refine ((hbl _ _ (hd4.drewN _) (hM4.out.rd.still (Fr.drewN [] w3 _)) hdS3).out).mono ?_); rintro e w5 hs; obtain ⟨rfl, p5, S5, i5, sm5, hM5, hd5⟩ := hs.bad h42'.out hib'.out)
                go_ret
                exact ⟨p5, S5, i5, sm5, -1, _, (hM4.out.also (Fr.drewN [] w3 _)).comp hM5 (fun _ h => h), hd5, .inl ⟨4, j, hRb.out, by decide, by decide, rfl, rfl, rfl⟩⟩
              · have hif : c.infoBad = false := Bool.eq_false_iff.2 hib
                rw [hif] at hR3
                simp only [Bool.false_eq_true, if_false] at hR3
                have hR4 := Hid.mk2 hR3
                have hif' := Hid.mk2 hif
                clear hR3 h42 hib hif
                go_wp2_with (first
                  | (go_at_call 245; (with_reducible refine (hat.out).mono ?_); rintro e w2 ⟨rfl, nd, rfl⟩; have hd2 : DecF 230 (wr.drewN nd) db rb hb k0 k1 k2 i sm (-1) at_ := hd1.blk.drewN nd; have hc2 := hd2.blk.cell; have hz2 := hd2.blk.frozen; have hd3 : DecF 230 ((wr.drewN nd).setCell ⟨db, 15, none⟩ (.int .i64 (j : Int))) db rb hb k0 k1 k2 i sm (-1) (j : Int) := hd2.blk.set 15 _; have hM3 := Hid.mk2 ((hM.also (Fr.drewN [] wr nd)).one (Fr.set (a := ⟨db, 15, none⟩) (.int .i64 (j : Int)) (List.mem_singleton.2 rfl)) hdb hdl hB))
                  | (go_at_call 112; (with_reducible refine ((hcall _ hd3 hM3.out.rd).out).mono ?_); rintro e w3 ⟨rfl, hm3⟩; obtain ⟨S3, hM4x⟩ := hM3.out.step hm3; have hM4 := Hid.mk2 hM4x; clear hM4x; have hd4 : DecF 230 w3 db rb hb k0 k1 k2 i sm (-1) (j : Int) := hm3.1.blk hd3.blk hdS1; have hdS3 := hM4.out.notin hdb hdl; clear hm3))
                go_quiet (fail)
                go_wp2_with (go_at_call 113; (with_reducible refine ((hbl _ _ (hd4.drewN _) (hM4.out.rd.still (Fr.drewN [] w3 _)) hdS3).out).mono ?_); rintro e w5 hs; obtain ⟨rfl, S5, hM5, hd5⟩ := hs.good h42'.out hif'.out)
                obtain ⟨gn, hgn, hBn⟩ := BRun.next (k := k) (R := R) (j' := 42) (f := f) hlal (show R = if la = 1 then OpenRes.good 42 else c.openGo f (k + 1) 42 from by rw [hlk.out.1, hj4'.out]; exact hR4.out) hfk.out (by have := hj4'.out; omega) h42'.out hlim hkj ((hM4.out.also (Fr.drewN [] w3 _)).comp hM5 (fun _ h => h)) rfl rfl rfl hd5
                go_roundg gn
                case measure => exact hgn
                case rel => exact ⟨k + 1, _, by go_num, rfl, hBn⟩
          · have hkz : k ≠ 0 := by simpa using hkt
            have hR3 := hR2.trans (openGo_more h4n hmb' hkz)
            rw [← hlk.out.2.2, ← hlk.out.1] at hR3
            obtain ⟨hi1, hi2⟩ := hk1'.out hkz
            have hbl := fun W S1 (hd : DecF 230 W db rb hb k0 k1 k2 i sm (-1) (j : Nat)) (hr : RdS false B W rb bs c (8 * (j + 4)) S1) (hdb : db ∉ S1) => Hid.mk2 (block_more_s (n := le) (k := k) hk hd hr hdb h4'.out hlel hkz)
            have hi' : Hid (i = c.infI ∧ sm = c.text.extract 26 42) := ⟨hi1, hi2⟩
            clear hR2 hmb hmb' h4n hkz hi1 hi2
            by_cases hps : c.lim.1 < j + 4 + le
            · have hRb : Hid (R = .bad (wantE c.lim.2) j) := by rw [if_pos hps] at hR3; exact hR3
              have hps' := Hid.mk2 hps
              clear hR3 hps
              go_wp2_with (first
                | (go_at_call 245; (with_reducible refine (hat.out).mono ?_); rintro e w2 ⟨rfl, nd, rfl⟩; have hd2 : DecF 230 (wr.drewN nd) db rb hb k0 k1 k2 i sm (-1) at_ := hd1.blk.drewN nd; have hc2 := hd2.blk.cell; have hz2 := hd2.blk.frozen; have hd3 : DecF 230 ((wr.drewN nd).setCell ⟨db, 15, none⟩ (.int .i64 (j : Int))) db rb hb k0 k1 k2 i sm (-1) (j : Int) := hd2.blk.set 15 _; have hM3 := Hid.mk2 ((hM.also (Fr.drewN [] wr nd)).one (Fr.set (a := ⟨db, 15, none⟩) (.int .i64 (j : Int)) (List.mem_singleton.2 rfl)) hdb hdl hB))
                | (go_at_call 112; (with_reducible refine ((hcall _ hd3 hM3.out.rd).out).mono ?_); rintro e w3 ⟨rfl, hm3⟩; obtain ⟨S3, hM4x⟩ := hM3.out.step hm3; have hM4 := Hid.mk2 hM4x; clear hM4x; have hd4 : DecF 230 w3 db rb hb k0 k1 k2 i sm (-1) (j : Int) := hm3.1.blk hd3.blk hdS1; have hdS3 := hM4.out.notin hdb hdl; clear hm3))
              go_quiet (fail)
              go_wp2_with (go_at_call 113; (with_reducible refine ((hbl _ _ (hd4.drewN _) (hM4.out.rd.still (Fr.drewN [] w3 _)) hdS3).out).mono ?_); rintro e w5 hs; obtain ⟨rfl, p5, S5, hM5⟩ := hs.short hps'.out)
              go_ret
              exact ⟨p5, S5, i, sm, -1, j, (hM4.out.also (Fr.drewN [] w3 _)).comp hM5 (fun _ h => by cases h), hM5.fr.blk (hd4.blk.drewN _) (by simpa using hdS3), .inl ⟨wantE c.lim.2, j, hRb.out, hwe'.out.1, hwe'.out.2.2, rfl, rfl, rfl⟩⟩
            · rw [if_neg hps] at hR3
              have hR4 := Hid.mk2 hR3
              have hps' : Hid (j + 4 + le ≤ c.lim.1) := by unfold Hid; omega
              clear hR3 hps
              go_wp2_with (first
                | (go_at_call 245; (with_reducible refine (hat.out).mono ?_); rintro e w2 ⟨rfl, nd, rfl⟩; have hd2 : DecF 230 (wr.drewN nd) db rb hb k0 k1 k2 i sm (-1) at_ := hd1.blk.drewN nd; have hc2 := hd2.blk.cell; have hz2 := hd2.blk.frozen; have hd3 : DecF 230 ((wr.drewN nd).setCell ⟨db, 15, none⟩ (.int .i64 (j : Int))) db rb hb k0 k1 k2 i sm (-1) (j : Int) := hd2.blk.set 15 _; have hM3 := Hid.mk2 ((hM.also (Fr.drewN [] wr nd)).one (Fr.set (a := ⟨db, 15, none⟩) (.int .i64 (j : Int)) (List.mem_singleton.2 rfl)) hdb hdl hB))
                | (go_at_call 112; (with_reducible refine ((hcall _ hd3 hM3.out.rd).out).mono ?_); rintro e w3 ⟨rfl, hm3⟩; obtain ⟨S3, hM4x⟩ := hM3.out.step hm3; have hM4 := Hid.mk2 hM4x; clear hM4x; have hd4 : DecF 230 w3 db rb hb k0 k1 k2 i sm (-1) (j : Int) := hm3.1.blk hd3.blk hdS1; have hdS3 := hM4.out.notin hdb hdl; clear hm3))
              go_quiet (fail)
              go_wp2_with (go_at_call 113; (with_reducible refine ((hbl _ _ (hd4.drewN _) (hM4.out.rd.still (Fr.drewN [] w3 _)) hdS3).out).mono ?_); rintro e w5 hs; obtain ⟨rfl, S5, hM5⟩ := hs.ok hps'.out)
              have hd5 : DecF 230 w5 db rb hb k0 k1 k2 i sm (-1) (j : Nat) := hM5.fr.blk (hd4.blk.drewN _) (by simpa using hdS3)
              obtain ⟨gn, hgn, hBn⟩ := BRun.next hlal hR4.out hfk.out (by omega) hps'.out hlim hkj ((hM4.out.also (Fr.drewN [] w3 _)).comp hM5 (fun _ h => by cases h)) rfl hi'.out.1 hi'.out.2 hd5
              go_roundg gn
              case measure => exact hgn
              case rel => exact ⟨k + 1, _, by go_num, rfl, hBn⟩
    · have hat := Hid.mk2 (show Calls Tryz.prog 245 #[.pointer (some ⟨rb, 0, none⟩)] wr fun e w' => e = .returned (.int .i64 (8 * j : Nat)) ∧ ∃ n, w' = wr.drewN n from rdAt_any (q := false) hM.rd)
      have hp8 : ((8 * (j : Int)).tdiv 8) = (j : Int) := by rw [Int.tdiv_eq_ediv_of_nonneg (by omega)]; omega
      have hjs : j ≤ 1048576 := by omega
      have hc1 := hd1.blk.cell
      have hR' := Hid.mk2 hR
      clear hR
      go_wp2_with (go_at_call 245; (with_reducible refine (hat.out).mono ?_); rintro e w2 ⟨rfl, nd, rfl⟩; have hd2 : DecF 230 (wr.drewN nd) db rb hb k0 k1 k2 c.infI (c.text.extract 26 42) (-1) at_ := hd1.blk.drewN nd; have hc2 := hd2.blk.cell; have hz2 := hd2.blk.frozen)
      go_ret
      have hd3 : DecF 230 (((wr.drewN nd).setCell ⟨db, 14, none⟩ (.int .i64 0)).setCell ⟨db, 15, none⟩ (.int .i64 (j : Int))) db rb hb k0 k1 k2 c.infI (c.text.extract 26 42) 0 (j : Int) := (hd2.blk.set 14 _).set 15 _
      exact ⟨_, S1, _, _, 0, j, (hM.also (Fr.drewN [] wr nd)).one (fr2 db _ 14 15 _ _) hdb hdl hB, hd3, .inr ⟨j, hR'.out, rfl, rfl, rfl, rfl, rfl⟩⟩

set_option maxRecDepth 100000 in
set_option maxHeartbeats 4000000 in
theorem begin_run_q {B : Nat} {w : World} {db rb bs hb : Nat} {k0 k1 k2 : Value} {c : Cfg} {S : List Nat} (hk : LimOk c) (hd : DecF 233 w db rb hb k0 k1 k2 (fun _ => 0) ⟨#[]⟩ (-1) 0) (h : RdS true B w rb bs c 0 S) (hdb : db ∉ S) (hB : B ≤ db) (hL : 4 ≤ c.lim.1) (hmk : c.markText = [102, 76, 97, 67]) {R : OpenRes} (hR0 : Hid (R = c.openGo (c.lim.1 + 1) 0 4)) :
    Calls Tryz.prog 80 #[.pointer (some ⟨db, 0, none⟩)] w (BeginPost true 233 B db rb bs hb k0 k1 k2 c R S w) := by
  have hm : ∀ (a : Addr) (w : World), (Go.method 464 233 (.pointer (some a)) "At").run Tryz.prog w = .ok (254, .pointer (some a)) w := fun a w => by kernel_rfl
  have hcall := Hid.mk2 (bytes_ok_q (j := 0) (n := 4) hk hd h rfl hdb (by decide) (by omega) (z := 4) rfl)
  have hM0 := Hid.mk2 (MovT.start h [db])
  obtain ⟨t, ht⟩ : ∃ t, t = c.text.extract 0 4 := ⟨_, rfl⟩
  simp only [Nat.reduceAdd, Nat.reduceMul, Nat.zero_add, ← ht] at hcall
  unfold Cfg.markText at hmk
  rw [← ht] at hmk
  have hmt := mark_yes hmk
  have hwe := wantE_ne hk.stop
  obtain ⟨hh, hlf⟩ := errV_leaf hwe.1
  have hln := hlf.nnil
  have hwe' := Hid.mk2 hwe
  have hln0 := hk.len
  have hbn := fun W S1 j i sm (hd : DecF 233 W db rb hb k0 k1 k2 i sm (-1) (j : Nat)) (hr : RdS true B W rb bs c (8 * j) S1) (hdb : db ∉ S1) (hj : j ≤ c.lim.1) (h4 : c.lim.1 < j + 4) => Hid.mk2 (bytes_not_q (n := 4) hk hd hr rfl hdb (by decide) hj h4 (z := 4) rfl)
  have hbo := fun W S1 j i sm (hd : DecF 233 W db rb hb k0 k1 k2 i sm (-1) (j : Nat)) (hr : RdS true B W rb bs c (8 * j) S1) (hdb : db ∉ S1) (h4 : j + 4 ≤ c.lim.1) => Hid.mk2 (bytes_ok_q (n := 4) hk hd hr rfl hdb (by decide) h4 (z := 4) rfl)
  have hlim : c.lim.1 ≤ 1048576 := by have := hk.small; omega
  unfold BeginPost
  clear ht hmk hlf hwe
  go_enter Tryz.func80, Tryz.ntmps80
  go_wp2_with (go_at_call 112; (with_reducible refine (hcall.out).mono ?_); rintro e w1 ⟨rfl, hm1⟩)
  have hd0 : DecF 233 w1 db rb hb k0 k1 k2 (fun _ => 0) ⟨#[]⟩ (-1) 0 := hm1.1.blk hd.blk hdb
  have hB1 : Hid (BRun true 233 B db rb bs hb k0 k1 k2 c R S w w1 (c.lim.1 + 1 + 1) 0 false) := by
    obtain ⟨S2, hM2⟩ := hM0.out.step hm1
    exact ⟨_, S2, _, _, _, hM2, hd0, .inl ⟨c.lim.1 + 1, 4, rfl, rfl, hR0.out, by omega, hL, Nat.zero_le _, rfl, fun _ => rfl, fun h => absurd rfl h⟩⟩
  have hdl := hd.blk.lt
  clear hcall hm1 hd0 hR0
  go_loopg [5, 6] (c.lim.1 + 1 + 1) (fun g s5 s6 wx => ∃ (k : Nat) (last : Bool), s5 = .int .i64 k ∧ s6 = .bool last ∧ Hid (BRun true 233 B db rb bs hb k0 k1 k2 c R S w wx g k last))
  case atStart => exact ⟨0, false, rfl, rfl, hB1⟩
  case round =>
    obtain ⟨k, last, rfl, rfl, hrun⟩ := hrel
    clear hB1
    obtain ⟨p, S1, i, sm, at_, hM, hd1, ⟨f, j, rfl, rfl, hR, hf, hj, hkj, rfl, hk0, hk1⟩ | ⟨j, rfl, rfl, hR, hj, hkl, rfl, rfl, rfl⟩⟩ := hrun.out
    · obtain ⟨f, rfl⟩ : ∃ f', f = f' + 1 := ⟨f - 1, by omega⟩
      have hM' := Hid.mk2 hM
      have hR' := Hid.mk2 hR
      have hk0' := Hid.mk2 hk0
      have hk1' := Hid.mk2 hk1
      have hfk := Hid.mk2 hf
      have hc1 := hd1.blk.cell
      have hat := Hid.mk2 (show Calls Tryz.prog 254 #[.pointer (some ⟨rb, 0, none⟩)] wr fun e w' => e = .returned (.int .i64 (8 * j : Nat)) ∧ ∃ n, w' = wr.drewN n from rdAt_any (q := true) hM.rd)
      have hp8 : ((8 * (j : Int)).tdiv 8) = (j : Int) := by rw [Int.tdiv_eq_ediv_of_nonneg (by omega)]; omega
      have hjs : j ≤ 1048576 := by omega
      have hdS1 : db ∉ S1 := hM.notin hdb hdl
      clear hR hk0 hk1 hf
      by_cases h4 : c.lim.1 < j + 4
      · have h4' := Hid.mk2 h4
        clear h4
        go_wp2_with (first
          | (go_at_call 254; (with_reducible refine (hat.out).mono ?_); rintro e w2 ⟨rfl, nd, rfl⟩; have hd2 : DecF 233 (wr.drewN nd) db rb hb k0 k1 k2 i sm (-1) at_ := hd1.blk.drewN nd; have hc2 := hd2.blk.cell; have hz2 := hd2.blk.frozen; have hd3 : DecF 233 ((wr.drewN nd).setCell ⟨db, 15, none⟩ (.int .i64 (j : Int))) db rb hb k0 k1 k2 i sm (-1) (j : Int) := hd2.blk.set 15 _; have hM3 := Hid.mk2 ((hM.also (Fr.drewN [] wr nd)).one (Fr.set (a := ⟨db, 15, none⟩) (.int .i64 (j : Int)) (List.mem_singleton.2 rfl)) hdb hdl hB))
          | (go_at_call 112; (with_reducible refine ((hbn _ _ _ _ _ hd3 hM3.out.rd hdS1 hj h4'.out).out).mono ?_); rintro e w3 ⟨rfl, p3, hm3⟩))
        go_ret
        obtain ⟨S2, hM4⟩ := hM3.out.step hm3
        exact ⟨p3, S2, i, sm, -1, j, hM4, hm3.1.blk hd3.blk hdS1, .inl ⟨wantE c.lim.2, j, hR'.out.trans (openGo_short h4'.out), hwe'.out.1, hwe'.out.2.2, rfl, rfl, rfl⟩⟩
      · have h4' : Hid (j + 4 ≤ c.lim.1) := by unfold Hid; omega
        have hsz := hd_size (c := c) (q := j) (n := 4) (by have := h4'.out; omega)
        obtain ⟨t2, ht2⟩ : ∃ t2, t2 = c.text.extract j (j + 4) := ⟨_, rfl⟩
        have hcall := fun W (hd : DecF 233 W db rb hb k0 k1 k2 i sm (-1) j) (hr : RdS true B W rb bs c (8 * j) S1) => hbo W S1 j i sm hd hr hdS1 h4'.out
        rw [← ht2] at hsz hcall
        have hjl : j + 4 ≤ c.len := by have := h4'.out; omega
        obtain ⟨b0, hb0⟩ : ∃ b, b = c.byte j := ⟨_, rfl⟩
        obtain ⟨b1, hb1⟩ : ∃ b, b = c.byte (j + 1) := ⟨_, rfl⟩
        obtain ⟨b2, hb2⟩ : ∃ b, b = c.byte (j + 2) := ⟨_, rfl⟩
        obtain ⟨b3, hb3⟩ : ∃ b, b = c.byte (j + 3) := ⟨_, rfl⟩
        have e0 : (t2[0]'(by omega)).toNat = b0 := (hd_at ht2 hjl 0 (by decide) _).trans hb0.symm
        have e1 : (t2[1]'(by omega)).toNat = b1 := (hd_at ht2 hjl 1 (by decide) _).trans hb1.symm
        have e2 : (t2[2]'(by omega)).toNat = b2 := (hd_at ht2 hjl 2 (by decide) _).trans hb2.symm
        have e3 : (t2[3]'(by omega)).toNat = b3 := (hd_at ht2 hjl 3 (by decide) _).trans hb3.symm
        have l0 : b0 < 256 := hb0 ▸ c.byte_lt j
        have l1 : b1 < 256 := hb1 ▸ c.byte_lt (j + 1)
        have l2 : b2 < 256 := hb2 ▸ c.byte_lt (j + 2)
        have l3 : b3 < 256 := hb3 ▸ c.byte_lt (j + 3)
        obtain ⟨la, hla⟩ : ∃ la, la = c.lastN j := ⟨_, rfl⟩
        obtain ⟨ki, hki⟩ : ∃ ki, ki = c.kindN j := ⟨_, rfl⟩
        obtain ⟨le, hle⟩ : ∃ le, le = c.lenN j := ⟨_, rfl⟩
        have hA : (bits .and .u8 (b0 : Int) 128 != 0) = decide (la = 1) := by rw [hd_is b0 l0, hla, hb0]; rfl
        have hK : bits .and .u8 (b0 : Int) 127 = (ki : Int) := by rw [hd_kind b0 l0, hki, hb0]; rfl
        have hN : bits .or .i64 (bits .or .i64 ((b1 : Int) * 65536) ((b2 : Int) * 256)) (b3 : Int) = (le : Int) := by rw [hd_len b1 b2 b3 l1 l2 l3, hle, hb1, hb2, hb3]; rfl
        have hlal : la < 2 := hla ▸ c.lastN_lt j
        have hkil : ki < 128 := hki ▸ c.kindN_lt j
        have hlel : le < 16777216 := hle ▸ c.lenN_lt j
        have hlk := Hid.mk2 (And.intro hla (And.intro hki hle))
        clear ht2 hb0 hb1 hb2 hb3 hla hki hle
        have hR2 := hR'.out
        by_cases hmb : metaBad k ki le = true
        · have hRb : Hid (R = .bad 5 j) := by
            obtain ⟨q1, q2, q3⟩ := hlk.out
            rw [q2, q3] at hmb
            exact hR2.trans (openGo_meta (by have := h4'.out; omega) hmb)
          have hw := meta_ways hmb
          clear hmb hR2
          rcases hw with ⟨hkt, g1⟩ | ⟨hkt, g1, g2⟩ | ⟨hkt, g1, g2, g3⟩ | ⟨hkt, g1⟩ | ⟨hkt, g1, g2⟩
          all_goals
            go_wp2_with (first
              | (go_at_call 254; (with_reducible refine (hat.out).mono ?_); rintro e w2 ⟨rfl, nd, rfl⟩; have hd2 : DecF 233 (wr.drewN nd) db rb hb k0 k1 k2 i sm (-1) at_ := hd1.blk.drewN nd; have hc2 := hd2.blk.cell; have hz2 := hd2.blk.frozen; have hd3 : DecF 233 ((wr.drewN nd).setCell ⟨db, 15, none⟩ (.int .i64 (j : Int))) db rb hb k0 k1 k2 i sm (-1) (j : Int) := hd2.blk.set 15 _; have hM3 := Hid.mk2 ((hM.also (Fr.drewN [] wr nd)).one (Fr.set (a := ⟨db, 15, none⟩) (.int .i64 (j : Int)) (List.mem_singleton.2 rfl)) hdb hdl hB))
              | (go_at_call 112; (with_reducible refine ((hcall _ hd3 hM3.out.rd).out).mono ?_); rintro e w3 ⟨rfl, hm3⟩; obtain ⟨S3, hM4x⟩ := hM3.out.step hm3; have hM4 := Hid.mk2 hM4x; clear hM4x; have hd4 : DecF 233 w3 db rb hb k0 k1 k2 i sm (-1) (j : Int) := hm3.1.blk hd3.blk hdS1; have hdS3 := hM4.out.notin hdb hdl; clear hm3))
            go_quiet (fail)
            go_wp2_with fail
            go_ret
            exact ⟨_, S3, i, sm, -1, j, hM4.out.also (Fr.drewN [] w3 _), hd4.blk.drewN _, .inl ⟨5, j, hRb.out, by decide, by decide, rfl, rfl, rfl⟩⟩
        · have hmb' : ¬ metaBad k (c.kindN j) (c.lenN j) = true := by
            obtain ⟨q1, q2, q3⟩ := hlk.out
            rw [← q2, ← q3]
            exact hmb
          have h4n : ¬ c.lim.1 < j + 4 := by have := h4'.out; omega
          rcases meta_no hmb with ⟨hkt, g1, g2, g3⟩ | ⟨hkt, g1, g2⟩
          · have hkz : k = 0 := by simpa using hkt
            have hj4 := hk0'.out hkz
            have hR3 := hR2.trans (openGo_first h4n hmb' hkz)
            have hbl := fun W S1 (hd : DecF 233 W db rb hb k0 k1 k2 i sm (-1) (j : Nat)) (hr : RdS true B W rb bs c (8 * (j + 4)) S1) (hdb : db ∉ S1) => Hid.mk2 (show Calls Tryz.prog 113 #[.pointer (some ⟨db, 0, none⟩), .int .i64 (k : Int), .int .i64 (le : Int)] W (StreamPost true 233 B db rb bs hb k0 k1 k2 (-1) (j : Nat) c S1 W) from by
              rw [hj4] at hr
              rw [hkz]
              exact block_first_q le hk hd hr hdb hB (by have := h4'.out; omega))
            rw [hj4] at hR3
            have hkz' := Hid.mk2 hkz
            have hj4' := Hid.mk2 hj4
            clear hR2 hmb hmb' h4n hkz hj4
            by_cases h42 : c.lim.1 < 42
            · have hRb : Hid (R = .bad (wantE c.lim.2) j) := by rw [if_pos h42] at hR3; rw [hj4'.out]; exact hR3
              clear hR3
              have h42' := Hid.mk2 h42
              clear h42
              go_wp2_with (first
                | (go_at_call 254; (with_reducible refine (hat.out).mono ?_); rintro e w2 ⟨rfl, nd, rfl⟩; have hd2 : DecF 233 (wr.drewN nd) db rb hb k0 k1 k2 i sm (-1) at_ := hd1.blk.drewN nd; have hc2 := hd2.blk.cell; have hz2 := hd2.blk.frozen; have hd3 : DecF 233 ((wr.drewN nd).setCell ⟨db, 15, none⟩ (.int .i64 (j : Int))) db rb hb k0 k1 k2 i sm (-1) (j : Int) := hd2.blk.set 15 _; have hM3 := Hid.mk2 ((hM.also (Fr.drewN [] wr nd)).one (Fr.set (a := ⟨db, 15, none⟩) (.int .i64 (j : Int)) (List.mem_singleton.2 rfl)) hdb hdl hB))
                | (go_at_call 112; (with_reducible refine ((hcall _ hd3 hM3.out.rd).out).mono ?_); rintro e w3 ⟨rfl, hm3⟩; obtain ⟨S3, hM4x⟩ := hM3.out.step hm3; have hM4 := Hid.mk2 hM4x; clear hM4x; have hd4 : DecF 233 w3 db rb hb k0 k1 k2 i sm (-1) (j : Int) := hm3.1.blk hd3.blk hdS1; have hdS3 := hM4.out.notin hdb hdl; clear hm3))
              go_quiet (fail)
              go_wp2_with (go_at_call 113; (with_reducible refine ((hbl _ _ (hd4.drewN _) (hM4.out.rd.still (Fr.drewN [] w3 _)) hdS3).out).mono ?_); rintro e w5 hs; obtain ⟨rfl, p5, S5, i5, sm5, hM5, hd5⟩ := hs.short h42'.out)
              go_ret
              exact ⟨p5, S5, i5, sm5, -1, _, (hM4.out.also (Fr.drewN [] w3 _)).comp hM5 (fun _ h => h), hd5, .inl ⟨wantE c.lim.2, j, hRb.out, hwe'.out.1, hwe'.out.2.2, rfl, rfl, rfl⟩⟩
            · rw [if_neg h42] at hR3
              have h42' : Hid (42 ≤ c.lim.1) := by unfold Hid; omega
              by_cases hib : c.infoBad = true
              · have hRb : Hid (R = .bad 4 j) := by rw [if_pos hib] at hR3; rw [hj4'.out]; exact hR3
                have hib' := Hid.mk2 hib
                clear hR3 h42 hib
                go_wp2_with (first
                  | (go_at_call 254; (with_reducible refine (hat.out).mono ?_); rintro e w2 ⟨rfl, nd, rfl⟩; have hd2 : DecF 233 (wr.drewN nd) db rb hb k0 k1 k2 i sm (-1) at_ := hd1.blk.drewN nd; have hc2 := hd2.blk.cell; have hz2 := hd2.blk.frozen; have hd3 : DecF 233 ((wr.drewN nd).setCell ⟨db, 15, none⟩ (.int .i64 (j : Int))) db rb hb k0 k1 k2 i sm (-1) (j : Int) := hd2.blk.set 15 _; have hM3 := Hid.mk2 ((hM.also (Fr.drewN [] wr nd)).one (Fr.set (a := ⟨db, 15, none⟩) (.int .i64 (j : Int)) (List.mem_singleton.2 rfl)) hdb hdl hB))
                  | (go_at_call 112; (with_reducible refine ((hcall _ hd3 hM3.out.rd).out).mono ?_); rintro e w3 ⟨rfl, hm3⟩; obtain ⟨S3, hM4x⟩ := hM3.out.step hm3; have hM4 := Hid.mk2 hM4x; clear hM4x; have hd4 : DecF 233 w3 db rb hb k0 k1 k2 i sm (-1) (j : Int) := hm3.1.blk hd3.blk hdS1; have hdS3 := hM4.out.notin hdb hdl; clear hm3))
                go_quiet (fail)
                go_wp2_with (go_at_call 113; (with_reducible refine ((hbl _ _ (hd4.drewN _) (hM4.out.rd.still (Fr.drewN [] w3 _)) hdS3).out).mono ?_); rintro e w5 hs; obtain ⟨rfl, p5, S5, i5, sm5, hM5, hd5⟩ := hs.bad h42'.out hib'.out)
                go_ret
                exact ⟨p5, S5, i5, sm5, -1, _, (hM4.out.also (Fr.drewN [] w3 _)).comp hM5 (fun _ h => h), hd5, .inl ⟨4, j, hRb.out, by decide, by decide, rfl, rfl, rfl⟩⟩
              · have hif : c.infoBad = false := Bool.eq_false_iff.2 hib
                rw [hif] at hR3
                simp only [Bool.false_eq_true, if_false] at hR3
                have hR4 := Hid.mk2 hR3
                have hif' := Hid.mk2 hif
                clear hR3 h42 hib hif
                go_wp2_with (first
                  | (go_at_call 254; (with_reducible refine (hat.out).mono ?_); rintro e w2 ⟨rfl, nd, rfl⟩; have hd2 : DecF 233 (wr.drewN nd) db rb hb k0 k1 k2 i sm (-1) at_ := hd1.blk.drewN nd; have hc2 := hd2.blk.cell; have hz2 := hd2.blk.frozen; have hd3 : DecF 233 ((wr.drewN nd).setCell ⟨db, 15, none⟩ (.int .i64 (j : Int))) db rb hb k0 k1 k2 i sm (-1) (j : Int) := hd2.blk.set 15 _; have hM3 := Hid.mk2 ((hM.also (Fr.drewN [] wr nd)).one (Fr.set (a := ⟨db, 15, none⟩) (.int .i64 (j : Int)) (List.mem_singleton.2 rfl)) hdb hdl hB))
                  | (go_at_call 112; (with_reducible refine ((hcall _ hd3 hM3.out.rd).out).mono ?_); rintro e w3 ⟨rfl, hm3⟩; obtain ⟨S3, hM4x⟩ := hM3.out.step hm3; have hM4 := Hid.mk2 hM4x; clear hM4x; have hd4 : DecF 233 w3 db rb hb k0 k1 k2 i sm (-1) (j : Int) := hm3.1.blk hd3.blk hdS1; have hdS3 := hM4.out.notin hdb hdl; clear hm3))
                go_quiet (fail)
                go_wp2_with (go_at_call 113; (with_reducible refine ((hbl _ _ (hd4.drewN _) (hM4.out.rd.still (Fr.drewN [] w3 _)) hdS3).out).mono ?_); rintro e w5 hs; obtain ⟨rfl, S5, hM5, hd5⟩ := hs.good h42'.out hif'.out)
                obtain ⟨gn, hgn, hBn⟩ := BRun.next (k := k) (R := R) (j' := 42) (f := f) hlal (show R = if la = 1 then OpenRes.good 42 else c.openGo f (k + 1) 42 from by rw [hlk.out.1, hj4'.out]; exact hR4.out) hfk.out (by have := hj4'.out; omega) h42'.out hlim hkj ((hM4.out.also (Fr.drewN [] w3 _)).comp hM5 (fun _ h => h)) rfl rfl rfl hd5
                go_roundg gn
                case measure => exact hgn
                case rel => exact ⟨k + 1, _, by go_num, rfl, hBn⟩
          · have hkz : k ≠ 0 := by simpa using hkt
            have hR3 := hR2.trans (openGo_more h4n hmb' hkz)
            rw [← hlk.out.2.2, ← hlk.out.1] at hR3
            obtain ⟨hi1, hi2⟩ := hk1'.out hkz
            have hbl := fun W S1 (hd : DecF 233 W db rb hb k0 k1 k2 i sm (-1) (j : Nat)) (hr : RdS true B W rb bs c (8 * (j + 4)) S1) (hdb : db ∉ S1) => Hid.mk2 (block_more_q (n := le) (k := k) hk hd hr hdb h4'.out hlel hkz)
            have hi' : Hid (i = c.infI ∧ sm = c.text.extract 26 42) := ⟨hi1, hi2⟩
            clear hR2 hmb hmb' h4n hkz hi1 hi2
            by_cases hps : c.lim.1 < j + 4 + le
            · have hRb : Hid (R = .bad (wantE c.lim.2) j) := by rw [if_pos hps] at hR3; exact hR3
              have hps' := Hid.mk2 hps
              clear hR3 hps
              go_wp2_with (first
                | (go_at_call 254; (with_reducible refine (hat.out).mono ?_); rintro e w2 ⟨rfl, nd, rfl⟩; have hd2 : DecF 233 (wr.drewN nd) db rb hb k0 k1 k2 i sm (-1) at_ := hd1.blk.drewN nd; have hc2 := hd2.blk.cell; have hz2 := hd2.blk.frozen; have hd3 : DecF 233 ((wr.drewN nd).setCell ⟨db, 15, none⟩ (.int .i64 (j : Int))) db rb hb k0 k1 k2 i sm (-1) (j : Int) := hd2.blk.set 15 _; have hM3 := Hid.mk2 ((hM.also (Fr.drewN [] wr nd)).one (Fr.set (a := ⟨db, 15, none⟩) (.int .i64 (j : Int)) (List.mem_singleton.2 rfl)) hdb hdl hB))
                | (go_at_call 112; (with_reducible refine ((hcall _ hd3 hM3.out.rd).out).mono ?_); rintro e w3 ⟨rfl, hm3⟩; obtain ⟨S3, hM4x⟩ := hM3.out.step hm3; have hM4 := Hid.mk2 hM4x; clear hM4x; have hd4 : DecF 233 w3 db rb hb k0 k1 k2 i sm (-1) (j : Int) := hm3.1.blk hd3.blk hdS1; have hdS3 := hM4.out.notin hdb hdl; clear hm3))
              go_quiet (fail)
              go_wp2_with (go_at_call 113; (with_reducible refine ((hbl _ _ (hd4.drewN _) (hM4.out.rd.still (Fr.drewN [] w3 _)) hdS3).out).mono ?_); rintro e w5 hs; obtain ⟨rfl, p5, S5, hM5⟩ := hs.short hps'.out)
              go_ret
              exact ⟨p5, S5, i, sm, -1, j, (hM4.out.also (Fr.drewN [] w3 _)).comp hM5 (fun _ h => by cases h), hM5.fr.blk (hd4.blk.drewN _) (by simpa using hdS3), .inl ⟨wantE c.lim.2, j, hRb.out, hwe'.out.1, hwe'.out.2.2, rfl, rfl, rfl⟩⟩
            · rw [if_neg hps] at hR3
              have hR4 := Hid.mk2 hR3
              have hps' : Hid (j + 4 + le ≤ c.lim.1) := by unfold Hid; omega
              clear hR3 hps
              go_wp2_with (first
                | (go_at_call 254; (with_reducible refine (hat.out).mono ?_); rintro e w2 ⟨rfl, nd, rfl⟩; have hd2 : DecF 233 (wr.drewN nd) db rb hb k0 k1 k2 i sm (-1) at_ := hd1.blk.drewN nd; have hc2 := hd2.blk.cell; have hz2 := hd2.blk.frozen; have hd3 : DecF 233 ((wr.drewN nd).setCell ⟨db, 15, none⟩ (.int .i64 (j : Int))) db rb hb k0 k1 k2 i sm (-1) (j : Int) := hd2.blk.set 15 _; have hM3 := Hid.mk2 ((hM.also (Fr.drewN [] wr nd)).one (Fr.set (a := ⟨db, 15, none⟩) (.int .i64 (j : Int)) (List.mem_singleton.2 rfl)) hdb hdl hB))
                | (go_at_call 112; (with_reducible refine ((hcall _ hd3 hM3.out.rd).out).mono ?_); rintro e w3 ⟨rfl, hm3⟩; obtain ⟨S3, hM4x⟩ := hM3.out.step hm3; have hM4 := Hid.mk2 hM4x; clear hM4x; have hd4 : DecF 233 w3 db rb hb k0 k1 k2 i sm (-1) (j : Int) := hm3.1.blk hd3.blk hdS1; have hdS3 := hM4.out.notin hdb hdl; clear hm3))
              go_quiet (fail)
              go_wp2_with (go_at_call 113; (with_reducible refine ((hbl _ _ (hd4.drewN _) (hM4.out.rd.still (Fr.drewN [] w3 _)) hdS3).out).mono ?_); rintro e w5 hs; obtain ⟨rfl, S5, hM5⟩ := hs.ok hps'.out)
              have hd5 : DecF 233 w5 db rb hb k0 k1 k2 i sm (-1) (j : Nat) := hM5.fr.blk (hd4.blk.drewN _) (by simpa using hdS3)
              obtain ⟨gn, hgn, hBn⟩ := BRun.next hlal hR4.out hfk.out (by omega) hps'.out hlim hkj ((hM4.out.also (Fr.drewN [] w3 _)).comp hM5 (fun _ h => by cases h)) rfl hi'.out.1 hi'.out.2 hd5
              go_roundg gn
              case measure => exact hgn
              case rel => exact ⟨k + 1, _, by go_num, rfl, hBn⟩
    · have hat := Hid.mk2 (show Calls Tryz.prog 254 #[.pointer (some ⟨rb, 0, none⟩)] wr fun e w' => e = .returned (.int .i64 (8 * j : Nat)) ∧ ∃ n, w' = wr.drewN n from rdAt_any (q := true) hM.rd)
      have hp8 : ((8 * (j : Int)).tdiv 8) = (j : Int) := by rw [Int.tdiv_eq_ediv_of_nonneg (by omega)]; omega
      have hjs : j ≤ 1048576 := by omega
      have hc1 := hd1.blk.cell
      have hR' := Hid.mk2 hR
      clear hR
      go_wp2_with (go_at_call 254; (with_reducible refine (hat.out).mono ?_); rintro e w2 ⟨rfl, nd, rfl⟩; have hd2 : DecF 233 (wr.drewN nd) db rb hb k0 k1 k2 c.infI (c.text.extract 26 42) (-1) at_ := hd1.blk.drewN nd; have hc2 := hd2.blk.cell; have hz2 := hd2.blk.frozen)
      go_ret
      have hd3 : DecF 233 (((wr.drewN nd).setCell ⟨db, 14, none⟩ (.int .i64 0)).setCell ⟨db, 15, none⟩ (.int .i64 (j : Int))) db rb hb k0 k1 k2 c.infI (c.text.extract 26 42) 0 (j : Int) := (hd2.blk.set 14 _).set 15 _
      exact ⟨_, S1, _, _, 0, j, (hM.also (Fr.drewN [] wr nd)).one (fr2 db _ 14 15 _ _) hdb hdl hB, hd3, .inr ⟨j, hR'.out, rfl, rfl, rfl, rfl, rfl⟩⟩

end Go.Proofs.YthigfpaajbejdaaGreatDoor
