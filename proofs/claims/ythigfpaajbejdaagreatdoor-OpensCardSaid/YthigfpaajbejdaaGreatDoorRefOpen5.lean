/-
  flacpairref.Open, walked: the blocks of metadata.
-/
import Derived.Test.YthigfpaajbejdaaGreatDoorRefOpen4
namespace Go.Proofs.YthigfpaajbejdaaGreatDoor
open Go.RowKit

theorem ropen_fr3' {w w2 w3 : World} {rb sb db : Nat} (hlw : Fr [] w w2 ∧ w.heap.size ≤ db ∧ w.heap.size ≤ sb ∧ w.heap.size ≤ rb ∧ w.heap.size ≤ w.heap.size) (hf : Fr [rb, sb, db] w2 w3) : Fr [] w w3 := by
  refine hlw.1.trans hf (fun k hk => .inr ?_)
  simp only [List.mem_cons, List.not_mem_nil, or_false] at hk
  rcases hk with rfl | rfl | rfl
  · exact hlw.2.2.2.1
  · exact hlw.2.2.1
  · exact hlw.2.1
theorem ropen_fr3 {w w2 w3 : World} {rb sb db : Nat} (hlw : Fr [] w w2 ∧ w.heap.size ≤ db ∧ w.heap.size ≤ sb ∧ w.heap.size ≤ rb ∧ w.heap.size ≤ w.heap.size) (hf : Fr [rb, sb, db] w2 w3) (fb : Nat) (hfb : w.heap.size ≤ fb) (x y z : Value) :
    Fr [] w (((w3.setCell ⟨fb, 0, none⟩ x).setCell ⟨fb, 1, none⟩ y).setCell ⟨fb, 2, none⟩ z).drew :=
  ((((ropen_fr3' hlw hf).setNew _ hfb).setNew _ hfb).setNew _ hfb).drew'
set_option maxRecDepth 100000 in
set_option maxHeartbeats 4000000 in
theorem rOpen_run0 {B : Nat} {w : World} {c : Cfg} {a : Option Addr} {cap : Nat} (hk : LimOk c) (hP : Pcs B w a c.ps) (hlen : c.len ≤ 1048576) (hL : 4 ≤ c.lim.1) (hm : c.markText = [102, 76, 97, 67]) {R : OpenRes} (hR0 : Hid (R = c.openGo (c.lim.1 + 1) 0 4)) :
    Calls Tryz.prog 18 #[.string c.text, .slice a c.ps.length cap, .int .i64 c.broken, .int .i64 0] w (ROpen c R w) := by
  have hof : ∀ W, Fr [] w W → Hid (Calls Tryz.prog 43 #[.string c.text, .slice a c.ps.length cap, .int .i64 c.broken] W (OfPost W c)) := fun W hW => of_any (hP.keep hW (by simp)) hlen
  have hF0 := (Fr.alloc [] w (.cells #[.int .i64 0, .int .i64 0, .int .i64 0] 46)).alloc' (.cells #[.pointer none, .int .i64 0, .int .i64 0, .int .i64 0, .int .i64 0, .int .i64 0, .int .i64 0, .int .i64 0, .int .i64 0, .string ⟨#[]⟩, .int .i64 0, .int .i64 0, .int .i64 0, .bool false, .string ⟨#[]⟩, .int .i64 0, .int .i64 0, .int .i64 0] 110)
  have hd0 : Blk ((w.alloc (.cells #[.int .i64 0, .int .i64 0, .int .i64 0] 46)).alloc (.cells #[.pointer none, .int .i64 0, .int .i64 0, .int .i64 0, .int .i64 0, .int .i64 0, .int .i64 0, .int .i64 0, .int .i64 0, .string ⟨#[]⟩, .int .i64 0, .int .i64 0, .int .i64 0, .bool false, .string ⟨#[]⟩, .int .i64 0, .int .i64 0, .int .i64 0] 110)) (w.heap.size + 1) #[.pointer none, .int .i64 0, .int .i64 0, .int .i64 0, .int .i64 0, .int .i64 0, .int .i64 0, .int .i64 0, .int .i64 0, .string ⟨#[]⟩, .int .i64 0, .int .i64 0, .int .i64 0, .bool false, .string ⟨#[]⟩, .int .i64 0, .int .i64 0, .int .i64 0] 110 := newAt (by simp)
  obtain ⟨ct, hct⟩ : ∃ ct, ct = c.text := ⟨_, rfl⟩
  rw [← hct] at hof ⊢
  have hct' := Hid.mk2 hct
  clear hct
  generalize c.ps.length = cl at *
  generalize c.broken = cb at *
  go_enter Tryz.func18, Tryz.ntmps18
  go_wp2_with (go_at_call 43; (with_reducible refine ((hof _ hF0).out).mono ?_); rintro e w1 ⟨rfl, hs1, hf1⟩; have hd1 := hf1.blk hd0 (by simp); have hcd1 := hd1.cell; have hzd1 := hd1.frozen; have hO := ROpn.mk0 hs1 hf1)
  clear hd0 hd1 hcd1 hzd1 hs1 hf1 hF0 hof
  generalize (w1.setCell ⟨w.heap.size + 1, 0, none⟩ (.pointer (some ⟨w.heap.size + 1 + 1, 0, none⟩))).alloc (.cells #[.pointer (some ⟨w.heap.size + 1 + 1, 0, none⟩), .int .i64 0] 114) = w2 at *
  generalize w1.heap.size = rb at *
  generalize w.heap.size + 1 + 1 = sb at *
  generalize w.heap.size + 1 = db at *
  have hlw : Hid (Fr [] w w2 ∧ w.heap.size ≤ db ∧ w.heap.size ≤ sb ∧ w.heap.size ≤ rb ∧ w.heap.size ≤ w.heap.size) := ⟨hO.fr, hO.new⟩
  have hrd := hO.rd
  have hdec := hO.dec
  have hflt := hO.flt
  clear hO
  have htx := Hid.mk2 (rText_ok (q := 0) (n := 4) hk hrd rfl (z := 4) rfl (by decide) (by omega))
  obtain ⟨t, ht⟩ : ∃ t, t = c.text.extract 0 4 := ⟨_, rfl⟩
  simp only [Nat.reduceAdd, Nat.reduceMul, Nat.zero_add, ← ht] at htx
  unfold Cfg.markText at hm
  rw [← ht] at hm
  have hmt := mark_yes hm
  clear ht hm
  have hrs : rb ≠ sb := hrd.ne
  have hrd' : rb ≠ db := hrd.blk.ne hdec.blk (by decide)
  have hsd : sb ≠ db := hrd.doc.blk.ne hdec.blk (by decide)
  have hfS : w.heap.size ∉ [rb, sb, db] := by have h1 := hflt.ne hrd.blk (by decide); have h2 := hflt.ne hrd.doc.blk (by decide); have h3 := hflt.ne hdec.blk (by decide); simp; omega
  have hDS : db ∉ [rb, sb] := by simp; omega
  obtain ⟨E, hE⟩ : ∃ E, wantE c.lim.2 = E := ⟨_, rfl⟩
  have hEne : E ≠ 0 := by rw [← hE]; exact (wantE_ne hk.stop).1
  have hE' := Hid.mk2 hE
  have hln := hk.len
  clear hE
  go_wp2_with (go_at_call 44; (with_reducible refine (htx.out).mono ?_); rintro e w3 ⟨rfl, hr3, hf3⟩; have hc3 := hr3.blk.cell)
  have hd3 : DecR w3 db sb (fun _ => 0) ⟨#[]⟩ 0 := hf3.blk hdec.blk hDS
  have hF3 : Fr [rb, sb, db] w2 w3 := hf3.mono (fun k hk => .inl (by simp at hk ⊢; omega))
  have hM3 : RRun c rb sb db R w3 (c.lim.1 + 1 + 1) 0 0 0 := .inl ⟨c.lim.1 + 1, 4, _, _, rfl, rfl, hR0.out, by omega, hL, by omega, hr3, hd3, fun _ => rfl, fun h => absurd rfl h⟩
  clear hc3 hR0 hr3 hd3 hf3
  go_loopg [13, 14, 15] (c.lim.1 + 1 + 1) (fun g s13 s14 s15 wx => ∃ at_ last k : Nat, s13 = .int .i64 at_ ∧ s14 = .int .i64 last ∧ s15 = .int .i64 k ∧ Hid (RRun c rb sb db R wx g k last at_) ∧ Fr [rb, sb, db] w2 wx)
  case atStart => exact ⟨0, 0, 0, rfl, rfl, rfl, hM3, hF3⟩
  case round =>
    obtain ⟨at_, last, k, rfl, rfl, rfl, hM, hF⟩ := hrel
    clear hM3 hF3
    rcases hM.out with ⟨f, q, i, sm, rfl, rfl, hR, hf, hq, hkq, hr, hd, hk0, hk1⟩ | ⟨q, rfl, rfl, rfl, hq, hr, hd⟩ | ⟨e, p, rfl, he, rfl, hr⟩
    · obtain ⟨f, rfl⟩ : ∃ f', f = f' + 1 := ⟨f - 1, by omega⟩
      have hk0' := Hid.mk2 hk0
      have hk1' := Hid.mk2 hk1
      have hcr := hr.blk.cell
      have hcs := hr.doc.blk.cell
      have hcd := hd.blk.cell
      have hLs : c.lim.1 ≤ 1048576 := by have := hk.small; omega
      have hp8 : ((8 * (q : Int)).tdiv 8) = (q : Int) := by rw [Int.tdiv_eq_ediv_of_nonneg (by omega)]; omega
      have hks : k ≤ 1048576 := by omega
      clear hk0 hk1
      by_cases h4 : c.lim.1 < q + 4
      · have hRb : Hid (R = .bad E q) := by rw [hR, openGo_short h4, hE'.out]; rfl
        have hE1 : ((E : Int) == 0) = false := by simpa using hEne
        have hR' := Hid.mk2 hR
        have hq8 : 8 * q ≤ 8 * c.lim.1 := by omega
        have hEn := Hid.mk2 hEne
        have hLs1 : Hid (c.lim.1 < q + 4) := h4
        clear hR hEne h4
        by_cases hkz : k = 0
        · have hkt : ((k : Int) == 0) = true := by simpa using hkz
          clear hkz
          go_wp2_with (first
            | (go_at_call 46; (with_reducible refine (rBits_go hk hr 1 (z := 1) rfl (by decide) hq8).mono ?_); rintro ev w4 ⟨⟨v1, hv1, rfl⟩, e1, p1, hr1, hp1, hs1, hf1⟩)
            | (go_at_call 46; (with_reducible refine (rBits_go hk hr1 7 (z := 7) rfl (by decide) hp1).mono ?_); rintro ev w5 ⟨⟨v2, hv2, rfl⟩, e2, p2, hr2, hp2, hs2, hf2⟩)
            | (go_at_call 46; (with_reducible refine (rBits_go hk hr2 24 (z := 24) rfl (by decide) hp2).mono ?_); rintro ev w6 ⟨⟨v3, hv3, rfl⟩, e3, p3, hr3, hp3, hs3, hf3⟩; obtain rfl := head_bad hE' hLs1.out hs1 hs2 hs3 hp3; have hf6 := hf1.same (hf2.same hf3); have hc3 := hr3.blk.cell; have hd3 : DecR w6 db sb i sm 0 := hf6.blk hd.blk hDS)
            | (go_at_call 47; (with_reducible refine (rAbout_dead hk hr3 hEn.out hp3 hd3).mono ?_); rintro ev w7 ⟨rfl, hr4, hf4⟩))
          go_roundg 0
          case measure => omega
          case rel => exact ⟨q, v1, k + 1, rfl, rfl, by go_num, RRun.dead hRb.out hEn.out hr4, (hF.same (hf6.mono (fun k hk => .inl (by simp at hk ⊢; omega)))).same hf4⟩
        · have hkt : ((k : Int) == 0) = false := by simpa using hkz
          clear hkz
          go_wp2_with (first
            | (go_at_call 46; (with_reducible refine (rBits_go hk hr 1 (z := 1) rfl (by decide) hq8).mono ?_); rintro ev w4 ⟨⟨v1, hv1, rfl⟩, e1, p1, hr1, hp1, hs1, hf1⟩)
            | (go_at_call 46; (with_reducible refine (rBits_go hk hr1 7 (z := 7) rfl (by decide) hp1).mono ?_); rintro ev w5 ⟨⟨v2, hv2, rfl⟩, e2, p2, hr2, hp2, hs2, hf2⟩)
            | (go_at_call 46; (with_reducible refine (rBits_go hk hr2 24 (z := 24) rfl (by decide) hp2).mono ?_); rintro ev w6 ⟨⟨v3, hv3, rfl⟩, e3, p3, hr3, hp3, hs3, hf3⟩; obtain rfl := head_bad hE' hLs1.out hs1 hs2 hs3 hp3; have hf6 := hf1.same (hf2.same hf3); have hc3 := hr3.blk.cell)
            | (go_at_call 48; (with_reducible refine (rPass_dead hk hr3 hEn.out hp3 hv3).mono ?_); rintro ev w7 ⟨rfl, hr4, hf4⟩))
          go_roundg 0
          case measure => omega
          case rel => exact ⟨q, v1, k + 1, rfl, rfl, by go_num, RRun.dead hRb.out hEn.out hr4, hF.same ((hf6.same hf4).mono (fun k hk => .inl (by simp at hk ⊢; omega)))⟩
      · have hin4 : q + 4 ≤ c.lim.1 := by omega
        have hla := c.lastN_lt q
        have hki := c.kindN_lt q
        have hle := c.lenN_lt q
        have k1 := Hid.mk2 (rInf_ok (x := c.lastN q) hk hr (z := 1) (n := 1) rfl (c.bits_last q) (p' := 8 * q + 1) rfl (by decide) (by omega))
        have k2 := fun W (hW : RefB W rb sb c 0 (8 * q + 1)) => Hid.mk2 (rInf_ok (x := c.kindN q) hk hW (z := 7) (n := 7) rfl (c.bits_kind q) (p' := 8 * q + 8) rfl (by decide) (by omega))
        have k3 := fun W (hW : RefB W rb sb c 0 (8 * q + 8)) => Hid.mk2 (rInf_ok (x := c.lenN q) hk hW (z := 24) (n := 24) rfl (c.bits_len q) (p' := 8 * (q + 4)) (by omega) (by decide) (by omega))
        have hp4 : 8 * (q + 4) ≤ 8 * c.lim.1 := by omega
        have hfK := Hid.mk2 hf
        have hqK : Hid (q ≤ c.lim.1 ∧ q + 4 ≤ c.lim.1) := ⟨hq, hin4⟩
        by_cases hmb : metaBad k (c.kindN q) (c.lenN q) = true
        · have hRb : Hid (R = .bad 5 q) := hR.trans (openGo_meta h4 hmb)
          have hw := meta_ways hmb
          generalize c.lastN q = la at *
          generalize c.kindN q = ki at *
          generalize c.lenN q = le at *
          have hlx : le < 68719476736 := by omega
          clear hR h4 hmb hf hq hin4
          rcases hw with ⟨hkt, g1⟩ | ⟨hkt, g1, g2⟩ | ⟨hkt, g1, g2, g3⟩ | ⟨hkt, g1⟩ | ⟨hkt, g1, g2⟩
          all_goals
            go_wp2_with (first
              | (go_at_call 46; (with_reducible refine (k1.out).mono ?_); rintro ev w4 ⟨rfl, hr1, hf1⟩)
              | (go_at_call 46; (with_reducible refine ((k2 _ hr1).out).mono ?_); rintro ev w5 ⟨rfl, hr2, hf2⟩)
              | (go_at_call 46; (with_reducible refine ((k3 _ hr2).out).mono ?_); rintro ev w6 ⟨rfl, hr3, hf3⟩; have hf6 := hf1.same (hf2.same hf3); have hc3 := hr3.blk.cell; have hd3 : DecR w6 db sb i sm 0 := hf6.blk hd.blk hDS)
              | (go_at_call 45; (with_reducible refine (rFail_int hr3 5 (z := 5) rfl).mono ?_); rintro ev w7 ⟨rfl, hr4, hf4⟩; have hf7 := hf6.same (hf4.mono (fun k hk => .inl (by simp at hk ⊢; omega))); have hd4 : DecR w7 db sb i sm 0 := hf7.blk hd.blk hDS)
              | (go_at_call 47; (with_reducible refine (rAbout_dead hk hr4 (by decide) hp4 hd4).mono ?_); rintro ev w8 ⟨rfl, hr5, hf5⟩)
              | (go_at_call 48; (with_reducible refine (rPass_dead hk hr4 (by decide) hp4 hlx).mono ?_); rintro ev w8 ⟨rfl, hr5, hf5⟩))
            go_roundg 0
            case measure => omega
            case rel => exact ⟨q, la, k + 1, rfl, rfl, by go_num, RRun.dead hRb.out (by decide) hr5, (hF.same (hf7.mono (fun k hk => .inl (by simp at hk ⊢; omega)))).same (hf5.mono (fun k hk => .inl (by simp at hk ⊢; omega)))⟩
        · have hw := meta_no hmb
          rcases hw with ⟨hkt, g1, g2, g3⟩ | ⟨hkt, g1, g2⟩
          · have hkz : k = 0 := by simpa using hkt
            have hq4 := hk0'.out hkz
            have hR2 := hR.trans (openGo_first h4 hmb hkz)
            generalize c.lastN q = la at *
            generalize c.kindN q = ki at *
            generalize c.lenN q = le at *
            clear hR h4 hmb hf hq hin4
            by_cases h38 : c.lim.1 < q + 38
            · have hRb : Hid (R = .bad E q) := by rw [hR2, if_pos h38, hE'.out]; rfl
              have hab : ∀ W, RefB W rb sb c 0 (8 * (q + 4)) → DecR W db sb i sm 0 → Hid (Calls Tryz.prog 47 #[.pointer (some ⟨db, 0, none⟩), .pointer (some ⟨rb, 0, none⟩)] W fun ev w' => ev = .returned (.tuple #[]) ∧ (∃ p', RefB w' rb sb c E p') ∧ Fr [rb, sb, db] W w') := fun W h1 h2 => by
                have := rAbout_short hk h1 rfl hq4 hp4 h38 h2
                rw [hE'.out] at this
                exact this
              have hq4' := Hid.mk2 hq4
              have hkz' := Hid.mk2 hkz
              clear hR2 h38 hq4 hkz
              go_wp2_with (first
                | (go_at_call 46; (with_reducible refine (k1.out).mono ?_); rintro ev w4 ⟨rfl, hr1, hf1⟩)
                | (go_at_call 46; (with_reducible refine ((k2 _ hr1).out).mono ?_); rintro ev w5 ⟨rfl, hr2, hf2⟩)
                | (go_at_call 46; (with_reducible refine ((k3 _ hr2).out).mono ?_); rintro ev w6 ⟨rfl, hr3, hf3⟩; have hf6 := hf1.same (hf2.same hf3); have hc3 := hr3.blk.cell; have hd3 : DecR w6 db sb i sm 0 := hf6.blk hd.blk hDS)
                | (go_at_call 47; (with_reducible refine ((hab _ hr3 hd3).out).mono ?_); rintro ev w8 ⟨rfl, hr5, hf5⟩))
              go_roundg 0
              case measure => omega
              case rel => exact ⟨q, la, k + 1, rfl, rfl, by go_num, RRun.dead hRb.out hEne hr5, (hF.same (hf6.mono (fun k hk => .inl (by simp at hk ⊢; omega)))).same hf5⟩
            · rw [if_neg h38] at hR2
              obtain ⟨e4, hb4⟩ : ∃ e4, (c.infoBad = true ∧ e4 = 4) ∨ (c.infoBad = false ∧ e4 = 0) := by
                cases hh : c.infoBad
                · exact ⟨0, .inr ⟨rfl, rfl⟩⟩
                · exact ⟨4, .inl ⟨rfl, rfl⟩⟩
              have hab : ∀ W, RefB W rb sb c 0 (8 * (q + 4)) → DecR W db sb i sm 0 → Hid (Calls Tryz.prog 47 #[.pointer (some ⟨db, 0, none⟩), .pointer (some ⟨rb, 0, none⟩)] W fun ev w' => ev = .returned (.tuple #[]) ∧ RefB w' rb sb c e4 (8 * (q + 38)) ∧ DecR w' db sb c.infI (c.text.extract 26 42) 0 ∧ Fr [rb, sb, db] W w') := fun W h1 h2 => rAbout_there hk h1 rfl hq4 (by omega) h2 e4 hb4
              have hb4' := Hid.mk2 hb4
              have hR2' := Hid.mk2 hR2
              have hkz' := Hid.mk2 hkz
              have h38' := Hid.mk2 h38
              clear hR2 h38 hq4 hkz hb4
              go_wp2_with (first
                | (go_at_call 46; (with_reducible refine (k1.out).mono ?_); rintro ev w4 ⟨rfl, hr1, hf1⟩)
                | (go_at_call 46; (with_reducible refine ((k2 _ hr1).out).mono ?_); rintro ev w5 ⟨rfl, hr2, hf2⟩)
                | (go_at_call 46; (with_reducible refine ((k3 _ hr2).out).mono ?_); rintro ev w6 ⟨rfl, hr3, hf3⟩; have hf6 := hf1.same (hf2.same hf3); have hc3 := hr3.blk.cell; have hd3 : DecR w6 db sb i sm 0 := hf6.blk hd.blk hDS)
                | (go_at_call 47; (with_reducible refine ((hab _ hr3 hd3).out).mono ?_); rintro ev w8 ⟨rfl, hr5, hd5, hf5⟩))
              have hFe := (hF.same (hf6.mono (T := [rb, sb, db]) (fun k hk => .inl (by simp at hk ⊢; omega)))).same hf5
              have hn : ∃ g, g < f + 1 + 1 ∧ RRun c rb sb db R w8 g (k + 1) la q := by
                rcases hb4'.out with ⟨hb, rfl⟩ | ⟨hb, rfl⟩
                · have := hR2'.out
                  rw [if_pos hb] at this
                  exact ⟨0, by omega, RRun.dead this (by decide) ⟨_, hr5⟩⟩
                · have := hR2'.out
                  rw [hb] at this
                  simp only [Bool.false_eq_true, if_false] at this
                  have h1 := h38'.out
                  exact RRun.next hla this hfK.out (by omega) (by omega) hkq hr5 hd5
              obtain ⟨gn, hgn, hMn⟩ := hn
              go_roundg gn
              case measure => exact hgn
              case rel => exact ⟨q, la, k + 1, rfl, rfl, by go_num, hMn, hFe⟩
          · have hkz : k ≠ 0 := by simpa using hkt
            have hR2 := hR.trans (openGo_more h4 hmb hkz)
            obtain ⟨hi1, hi2⟩ := hk1'.out hkz
            generalize c.lastN q = la at *
            generalize c.kindN q = ki at *
            generalize c.lenN q = le at *
            have hlx : le < 68719476736 := by omega
            clear hR h4 hmb hf hq hin4 hkz
            by_cases hps : c.lim.1 < q + 4 + le
            · have hRb : Hid (R = .bad E q) := by rw [hR2, if_pos hps, hE'.out]; rfl
              have hab : ∀ W, RefB W rb sb c 0 (8 * (q + 4)) → Hid (Calls Tryz.prog 48 #[.pointer (some ⟨rb, 0, none⟩), .int .i64 le] W fun ev w' => ev = .returned (.tuple #[]) ∧ (∃ p', RefB w' rb sb c E p') ∧ Fr [rb, sb] W w') := fun W h1 => by
                have := rPass_short hk h1 rfl hp4 hlx hps
                rw [hE'.out] at this
                exact this
              clear hR2 hps hi1 hi2
              go_wp2_with (first
                | (go_at_call 46; (with_reducible refine (k1.out).mono ?_); rintro ev w4 ⟨rfl, hr1, hf1⟩)
                | (go_at_call 46; (with_reducible refine ((k2 _ hr1).out).mono ?_); rintro ev w5 ⟨rfl, hr2, hf2⟩)
                | (go_at_call 46; (with_reducible refine ((k3 _ hr2).out).mono ?_); rintro ev w6 ⟨rfl, hr3, hf3⟩; have hf6 := hf1.same (hf2.same hf3); have hc3 := hr3.blk.cell)
                | (go_at_call 48; (with_reducible refine ((hab _ hr3).out).mono ?_); rintro ev w8 ⟨rfl, hr5, hf5⟩))
              go_roundg 0
              case measure => omega
              case rel => exact ⟨q, la, k + 1, rfl, rfl, by go_num, RRun.dead hRb.out hEne hr5, hF.same ((hf6.same hf5).mono (fun k hk => .inl (by simp at hk ⊢; omega)))⟩
            · rw [if_neg hps] at hR2
              have hab : ∀ W, RefB W rb sb c 0 (8 * (q + 4)) → Hid (Calls Tryz.prog 48 #[.pointer (some ⟨rb, 0, none⟩), .int .i64 le] W fun ev w' => ev = .returned (.tuple #[]) ∧ RefB w' rb sb c 0 (8 * (q + 4 + le)) ∧ Fr [rb, sb] W w') := fun W h1 => rPass_ok hk h1 rfl hp4 hlx (by omega)
              have hR2' := Hid.mk2 hR2
              have hps' := Hid.mk2 hps
              have hi' : Hid (i = c.infI ∧ sm = c.text.extract 26 42) := ⟨hi1, hi2⟩
              clear hR2 hps hi1 hi2
              go_wp2_with (first
                | (go_at_call 46; (with_reducible refine (k1.out).mono ?_); rintro ev w4 ⟨rfl, hr1, hf1⟩)
                | (go_at_call 46; (with_reducible refine ((k2 _ hr1).out).mono ?_); rintro ev w5 ⟨rfl, hr2, hf2⟩)
                | (go_at_call 46; (with_reducible refine ((k3 _ hr2).out).mono ?_); rintro ev w6 ⟨rfl, hr3, hf3⟩; have hf6 := hf1.same (hf2.same hf3); have hc3 := hr3.blk.cell)
                | (go_at_call 48; (with_reducible refine ((hab _ hr3).out).mono ?_); rintro ev w8 ⟨rfl, hr5, hf5⟩))
              have hfe := hf6.same hf5
              have hd5 : DecR w8 db sb i sm 0 := hfe.blk hd.blk hDS
              have hn : ∃ g, g < f + 1 + 1 ∧ RRun c rb sb db R w8 g (k + 1) la q := by
                have h1 := hps'.out
                rw [hi'.out.1, hi'.out.2] at hd5
                exact RRun.next hla hR2'.out hfK.out (by omega) (by omega) hkq hr5 hd5
              obtain ⟨gn, hgn, hMn⟩ := hn
              go_roundg gn
              case measure => exact hgn
              case rel => exact ⟨q, la, k + 1, rfl, rfl, by go_num, hMn, hF.same (hfe.mono (fun k hk => .inl (by simp at hk ⊢; omega)))⟩
    · have hcr := hr.blk.cell
      have hcs := hr.doc.blk.cell
      have hcd := hd.blk.cell
      have hzd := hd.blk.frozen
      have hflt3 := hF.blk hflt hfS
      have hD : Blk (wr.setCell ⟨db, 10, none⟩ (.int .i64 q)) db #[.pointer (some ⟨sb, 0, none⟩), .int .i64 (c.infI 0), .int .i64 (c.infI 1), .int .i64 (c.infI 2), .int .i64 (c.infI 3), .int .i64 (c.infI 4), .int .i64 (c.infI 5), .int .i64 (c.infI 6), .int .i64 (c.infI 7), .string (c.text.extract 26 42), .int .i64 q, .int .i64 0, .int .i64 0, .bool false, .string ⟨#[]⟩, .int .i64 0, .int .i64 0, .int .i64 0] 110 := hd.blk.set 10 _
      have hflt4 := (Fr.set (S := [db]) (w := wr) (a := ⟨db, 10, none⟩) (.int .i64 q) (List.mem_singleton.2 rfl)).blk hflt3 (by simp at hfS; simp; omega)
      have hcf := hflt4.cell
      have hzf := hflt4.frozen
      have hq8 : q ≤ 1048576 := by have := hk.small; omega
      have hp8 : ((8 * (q : Int)).tdiv 8) = (q : Int) := by rw [Int.tdiv_eq_ediv_of_nonneg (by omega)]; omega
      go_wp2_with fail
      refine bodyPost_ret (results_tc rfl _ _ w.heap.size 46 #[.int .i64 0, .int .i64 0, .int .i64 0] (0, 0) _ rfl (((hflt4.set 0 _).set 1 _).set 2 _) Tryz.underlying46 rfl (by kernel_rfl)) rfl ?_
      have hdw := hlw.out.2.1
      exact .inr ⟨q, db, sb, rfl, rfl, (fr3 w.heap.size _ 0 1 2 _ _ _).blk hD (by simp at hfS; simp; omega), ((((ropen_fr3' hlw.out hF).setNew _ hdw).setNew _ (Nat.le_refl _)).setNew _ (Nat.le_refl _)).setNew _ (Nat.le_refl _), hdw⟩
    · have he1 : ((e : Int) == 0) = false := by simpa using he
      have he2 : ((e : Int) != 0) = true := by simpa using he
      have hcr := hr.blk.cell
      have hflt3 := hF.blk hflt hfS
      have hcf := hflt3.cell
      have hzf := hflt3.frozen
      clear he
      go_wp2_with fail
      go_region
      all_goals go_wp2_with fail
      refine bodyPost_ret (results_tc rfl _ _ w.heap.size 46 #[.int .i64 e, .int .i64 (-1), .int .i64 at_] (0, 0) _ rfl ((((hflt3.set 0 _).set 1 _).set 2 _).drewN 1) Tryz.underlying46 rfl (by kernel_rfl)) rfl ?_
      exact .inl ⟨e, at_, rfl, rfl, ropen_fr3 hlw.out hF (w.heap.size) (Nat.le_refl _) _ _ _⟩

set_option maxRecDepth 100000 in
set_option maxHeartbeats 4000000 in
theorem rOpen_run1 {B : Nat} {w : World} {c : Cfg} {a : Option Addr} {cap : Nat} (hk : LimOk c) (hP : Pcs B w a c.ps) (hlen : c.len ≤ 1048576) (hL : 4 ≤ c.lim.1) (hm : c.markText = [102, 76, 97, 67]) {R : OpenRes} (hR0 : Hid (R = c.openGo (c.lim.1 + 1) 0 4)) :
    Calls Tryz.prog 18 #[.string c.text, .slice a c.ps.length cap, .int .i64 c.broken, .int .i64 1] w (ROpen c R w) := by
  have hof : ∀ W, Fr [] w W → Hid (Calls Tryz.prog 43 #[.string c.text, .slice a c.ps.length cap, .int .i64 c.broken] W (OfPost W c)) := fun W hW => of_any (hP.keep hW (by simp)) hlen
  have hF0 := (Fr.alloc [] w (.cells #[.int .i64 0, .int .i64 0, .int .i64 0] 46)).alloc' (.cells #[.pointer none, .int .i64 0, .int .i64 0, .int .i64 0, .int .i64 0, .int .i64 0, .int .i64 0, .int .i64 0, .int .i64 0, .string ⟨#[]⟩, .int .i64 0, .int .i64 0, .int .i64 0, .bool false, .string ⟨#[]⟩, .int .i64 0, .int .i64 0, .int .i64 0] 110)
  have hd0 : Blk ((w.alloc (.cells #[.int .i64 0, .int .i64 0, .int .i64 0] 46)).alloc (.cells #[.pointer none, .int .i64 0, .int .i64 0, .int .i64 0, .int .i64 0, .int .i64 0, .int .i64 0, .int .i64 0, .int .i64 0, .string ⟨#[]⟩, .int .i64 0, .int .i64 0, .int .i64 0, .bool false, .string ⟨#[]⟩, .int .i64 0, .int .i64 0, .int .i64 0] 110)) (w.heap.size + 1) #[.pointer none, .int .i64 0, .int .i64 0, .int .i64 0, .int .i64 0, .int .i64 0, .int .i64 0, .int .i64 0, .int .i64 0, .string ⟨#[]⟩, .int .i64 0, .int .i64 0, .int .i64 0, .bool false, .string ⟨#[]⟩, .int .i64 0, .int .i64 0, .int .i64 0] 110 := newAt (by simp)
  obtain ⟨ct, hct⟩ : ∃ ct, ct = c.text := ⟨_, rfl⟩
  rw [← hct] at hof ⊢
  have hct' := Hid.mk2 hct
  clear hct
  generalize c.ps.length = cl at *
  generalize c.broken = cb at *
  go_enter Tryz.func18, Tryz.ntmps18
  go_wp2_with (go_at_call 43; (with_reducible refine ((hof _ hF0).out).mono ?_); rintro e w1 ⟨rfl, hs1, hf1⟩; have hd1 := hf1.blk hd0 (by simp); have hcd1 := hd1.cell; have hzd1 := hd1.frozen; have hO := ROpn.mk0 hs1 hf1)
  clear hd0 hd1 hcd1 hzd1 hs1 hf1 hF0 hof
  generalize (w1.setCell ⟨w.heap.size + 1, 0, none⟩ (.pointer (some ⟨w.heap.size + 1 + 1, 0, none⟩))).alloc (.cells #[.pointer (some ⟨w.heap.size + 1 + 1, 0, none⟩), .int .i64 0] 114) = w2 at *
  generalize w1.heap.size = rb at *
  generalize w.heap.size + 1 + 1 = sb at *
  generalize w.heap.size + 1 = db at *
  have hlw : Hid (Fr [] w w2 ∧ w.heap.size ≤ db ∧ w.heap.size ≤ sb ∧ w.heap.size ≤ rb ∧ w.heap.size ≤ w.heap.size) := ⟨hO.fr, hO.new⟩
  have hrd := hO.rd
  have hdec := hO.dec
  have hflt := hO.flt
  clear hO
  have htx := Hid.mk2 (rText_ok (q := 0) (n := 4) hk hrd rfl (z := 4) rfl (by decide) (by omega))
  obtain ⟨t, ht⟩ : ∃ t, t = c.text.extract 0 4 := ⟨_, rfl⟩
  simp only [Nat.reduceAdd, Nat.reduceMul, Nat.zero_add, ← ht] at htx
  unfold Cfg.markText at hm
  rw [← ht] at hm
  have hmt := mark_yes hm
  clear ht hm
  have hrs : rb ≠ sb := hrd.ne
  have hrd' : rb ≠ db := hrd.blk.ne hdec.blk (by decide)
  have hsd : sb ≠ db := hrd.doc.blk.ne hdec.blk (by decide)
  have hfS : w.heap.size ∉ [rb, sb, db] := by have h1 := hflt.ne hrd.blk (by decide); have h2 := hflt.ne hrd.doc.blk (by decide); have h3 := hflt.ne hdec.blk (by decide); simp; omega
  have hDS : db ∉ [rb, sb] := by simp; omega
  obtain ⟨E, hE⟩ : ∃ E, wantE c.lim.2 = E := ⟨_, rfl⟩
  have hEne : E ≠ 0 := by rw [← hE]; exact (wantE_ne hk.stop).1
  have hE' := Hid.mk2 hE
  have hln := hk.len
  clear hE
  go_wp2_with (go_at_call 44; (with_reducible refine (htx.out).mono ?_); rintro e w3 ⟨rfl, hr3, hf3⟩; have hc3 := hr3.blk.cell)
  have hd3 : DecR w3 db sb (fun _ => 0) ⟨#[]⟩ 0 := hf3.blk hdec.blk hDS
  have hF3 : Fr [rb, sb, db] w2 w3 := hf3.mono (fun k hk => .inl (by simp at hk ⊢; omega))
  have hM3 : RRun c rb sb db R w3 (c.lim.1 + 1 + 1) 0 0 0 := .inl ⟨c.lim.1 + 1, 4, _, _, rfl, rfl, hR0.out, by omega, hL, by omega, hr3, hd3, fun _ => rfl, fun h => absurd rfl h⟩
  clear hc3 hR0 hr3 hd3 hf3
  go_loopg [13, 14, 15] (c.lim.1 + 1 + 1) (fun g s13 s14 s15 wx => ∃ at_ last k : Nat, s13 = .int .i64 at_ ∧ s14 = .int .i64 last ∧ s15 = .int .i64 k ∧ Hid (RRun c rb sb db R wx g k last at_) ∧ Fr [rb, sb, db] w2 wx)
  case atStart => exact ⟨0, 0, 0, rfl, rfl, rfl, hM3, hF3⟩
  case round =>
    obtain ⟨at_, last, k, rfl, rfl, rfl, hM, hF⟩ := hrel
    clear hM3 hF3
    rcases hM.out with ⟨f, q, i, sm, rfl, rfl, hR, hf, hq, hkq, hr, hd, hk0, hk1⟩ | ⟨q, rfl, rfl, rfl, hq, hr, hd⟩ | ⟨e, p, rfl, he, rfl, hr⟩
    · obtain ⟨f, rfl⟩ : ∃ f', f = f' + 1 := ⟨f - 1, by omega⟩
      have hk0' := Hid.mk2 hk0
      have hk1' := Hid.mk2 hk1
      have hcr := hr.blk.cell
      have hcs := hr.doc.blk.cell
      have hcd := hd.blk.cell
      have hLs : c.lim.1 ≤ 1048576 := by have := hk.small; omega
      have hp8 : ((8 * (q : Int)).tdiv 8) = (q : Int) := by rw [Int.tdiv_eq_ediv_of_nonneg (by omega)]; omega
      have hks : k ≤ 1048576 := by omega
      clear hk0 hk1
      by_cases h4 : c.lim.1 < q + 4
      · have hRb : Hid (R = .bad E q) := by rw [hR, openGo_short h4, hE'.out]; rfl
        have hE1 : ((E : Int) == 0) = false := by simpa using hEne
        have hR' := Hid.mk2 hR
        have hq8 : 8 * q ≤ 8 * c.lim.1 := by omega
        have hEn := Hid.mk2 hEne
        have hLs1 : Hid (c.lim.1 < q + 4) := h4
        clear hR hEne h4
        by_cases hkz : k = 0
        · have hkt : ((k : Int) == 0) = true := by simpa using hkz
          clear hkz
          go_wp2_with (first
            | (go_at_call 46; (with_reducible refine (rBits_go hk hr 1 (z := 1) rfl (by decide) hq8).mono ?_); rintro ev w4 ⟨⟨v1, hv1, rfl⟩, e1, p1, hr1, hp1, hs1, hf1⟩)
            | (go_at_call 46; (with_reducible refine (rBits_go hk hr1 7 (z := 7) rfl (by decide) hp1).mono ?_); rintro ev w5 ⟨⟨v2, hv2, rfl⟩, e2, p2, hr2, hp2, hs2, hf2⟩)
            | (go_at_call 46; (with_reducible refine (rBits_go hk hr2 24 (z := 24) rfl (by decide) hp2).mono ?_); rintro ev w6 ⟨⟨v3, hv3, rfl⟩, e3, p3, hr3, hp3, hs3, hf3⟩; obtain rfl := head_bad hE' hLs1.out hs1 hs2 hs3 hp3; have hf6 := hf1.same (hf2.same hf3); have hc3 := hr3.blk.cell; have hd3 : DecR w6 db sb i sm 0 := hf6.blk hd.blk hDS)
            | (go_at_call 47; (with_reducible refine (rAbout_dead hk hr3 hEn.out hp3 hd3).mono ?_); rintro ev w7 ⟨rfl, hr4, hf4⟩))
          go_roundg 0
          case measure => omega
          case rel => exact ⟨q, v1, k + 1, rfl, rfl, by go_num, RRun.dead hRb.out hEn.out hr4, (hF.same (hf6.mono (fun k hk => .inl (by simp at hk ⊢; omega)))).same hf4⟩
        · have hkt : ((k : Int) == 0) = false := by simpa using hkz
          clear hkz
          go_wp2_with (first
            | (go_at_call 46; (with_reducible refine (rBits_go hk hr 1 (z := 1) rfl (by decide) hq8).mono ?_); rintro ev w4 ⟨⟨v1, hv1, rfl⟩, e1, p1, hr1, hp1, hs1, hf1⟩)
            | (go_at_call 46; (with_reducible refine (rBits_go hk hr1 7 (z := 7) rfl (by decide) hp1).mono ?_); rintro ev w5 ⟨⟨v2, hv2, rfl⟩, e2, p2, hr2, hp2, hs2, hf2⟩)
            | (go_at_call 46; (with_reducible refine (rBits_go hk hr2 24 (z := 24) rfl (by decide) hp2).mono ?_); rintro ev w6 ⟨⟨v3, hv3, rfl⟩, e3, p3, hr3, hp3, hs3, hf3⟩; obtain rfl := head_bad hE' hLs1.out hs1 hs2 hs3 hp3; have hf6 := hf1.same (hf2.same hf3); have hc3 := hr3.blk.cell)
            | (go_at_call 48; (with_reducible refine (rPass_dead hk hr3 hEn.out hp3 hv3).mono ?_); rintro ev w7 ⟨rfl, hr4, hf4⟩))
          go_roundg 0
          case measure => omega
          case rel => exact ⟨q, v1, k + 1, rfl, rfl, by go_num, RRun.dead hRb.out hEn.out hr4, hF.same ((hf6.same hf4).mono (fun k hk => .inl (by simp at hk ⊢; omega)))⟩
      · have hin4 : q + 4 ≤ c.lim.1 := by omega
        have hla := c.lastN_lt q
        have hki := c.kindN_lt q
        have hle := c.lenN_lt q
        have k1 := Hid.mk2 (rInf_ok (x := c.lastN q) hk hr (z := 1) (n := 1) rfl (c.bits_last q) (p' := 8 * q + 1) rfl (by decide) (by omega))
        have k2 := fun W (hW : RefB W rb sb c 0 (8 * q + 1)) => Hid.mk2 (rInf_ok (x := c.kindN q) hk hW (z := 7) (n := 7) rfl (c.bits_kind q) (p' := 8 * q + 8) rfl (by decide) (by omega))
        have k3 := fun W (hW : RefB W rb sb c 0 (8 * q + 8)) => Hid.mk2 (rInf_ok (x := c.lenN q) hk hW (z := 24) (n := 24) rfl (c.bits_len q) (p' := 8 * (q + 4)) (by omega) (by decide) (by omega))
        have hp4 : 8 * (q + 4) ≤ 8 * c.lim.1 := by omega
        have hfK := Hid.mk2 hf
        have hqK : Hid (q ≤ c.lim.1 ∧ q + 4 ≤ c.lim.1) := ⟨hq, hin4⟩
        by_cases hmb : metaBad k (c.kindN q) (c.lenN q) = true
        · have hRb : Hid (R = .bad 5 q) := hR.trans (openGo_meta h4 hmb)
          have hw := meta_ways hmb
          generalize c.lastN q = la at *
          generalize c.kindN q = ki at *
          generalize c.lenN q = le at *
          have hlx : le < 68719476736 := by omega
          clear hR h4 hmb hf hq hin4
          rcases hw with ⟨hkt, g1⟩ | ⟨hkt, g1, g2⟩ | ⟨hkt, g1, g2, g3⟩ | ⟨hkt, g1⟩ | ⟨hkt, g1, g2⟩
          all_goals
            go_wp2_with (first
              | (go_at_call 46; (with_reducible refine (k1.out).mono ?_); rintro ev w4 ⟨rfl, hr1, hf1⟩)
              | (go_at_call 46; (with_reducible refine ((k2 _ hr1).out).mono ?_); rintro ev w5 ⟨rfl, hr2, hf2⟩)
              | (go_at_call 46; (with_reducible refine ((k3 _ hr2).out).mono ?_); rintro ev w6 ⟨rfl, hr3, hf3⟩; have hf6 := hf1.same (hf2.same hf3); have hc3 := hr3.blk.cell; have hd3 : DecR w6 db sb i sm 0 := hf6.blk hd.blk hDS)
              | (go_at_call 45; (with_reducible refine (rFail_int hr3 5 (z := 5) rfl).mono ?_); rintro ev w7 ⟨rfl, hr4, hf4⟩; have hf7 := hf6.same (hf4.mono (fun k hk => .inl (by simp at hk ⊢; omega))); have hd4 : DecR w7 db sb i sm 0 := hf7.blk hd.blk hDS)
              | (go_at_call 47; (with_reducible refine (rAbout_dead hk hr4 (by decide) hp4 hd4).mono ?_); rintro ev w8 ⟨rfl, hr5, hf5⟩)
              | (go_at_call 48; (with_reducible refine (rPass_dead hk hr4 (by decide) hp4 hlx).mono ?_); rintro ev w8 ⟨rfl, hr5, hf5⟩))
            go_roundg 0
            case measure => omega
            case rel => exact ⟨q, la, k + 1, rfl, rfl, by go_num, RRun.dead hRb.out (by decide) hr5, (hF.same (hf7.mono (fun k hk => .inl (by simp at hk ⊢; omega)))).same (hf5.mono (fun k hk => .inl (by simp at hk ⊢; omega)))⟩
        · have hw := meta_no hmb
          rcases hw with ⟨hkt, g1, g2, g3⟩ | ⟨hkt, g1, g2⟩
          · have hkz : k = 0 := by simpa using hkt
            have hq4 := hk0'.out hkz
            have hR2 := hR.trans (openGo_first h4 hmb hkz)
            generalize c.lastN q = la at *
            generalize c.kindN q = ki at *
            generalize c.lenN q = le at *
            clear hR h4 hmb hf hq hin4
            by_cases h38 : c.lim.1 < q + 38
            · have hRb : Hid (R = .bad E q) := by rw [hR2, if_pos h38, hE'.out]; rfl
              have hab : ∀ W, RefB W rb sb c 0 (8 * (q + 4)) → DecR W db sb i sm 0 → Hid (Calls Tryz.prog 47 #[.pointer (some ⟨db, 0, none⟩), .pointer (some ⟨rb, 0, none⟩)] W fun ev w' => ev = .returned (.tuple #[]) ∧ (∃ p', RefB w' rb sb c E p') ∧ Fr [rb, sb, db] W w') := fun W h1 h2 => by
                have := rAbout_short hk h1 rfl hq4 hp4 h38 h2
                rw [hE'.out] at this
                exact this
              have hq4' := Hid.mk2 hq4
              have hkz' := Hid.mk2 hkz
              clear hR2 h38 hq4 hkz
              go_wp2_with (first
                | (go_at_call 46; (with_reducible refine (k1.out).mono ?_); rintro ev w4 ⟨rfl, hr1, hf1⟩)
                | (go_at_call 46; (with_reducible refine ((k2 _ hr1).out).mono ?_); rintro ev w5 ⟨rfl, hr2, hf2⟩)
                | (go_at_call 46; (with_reducible refine ((k3 _ hr2).out).mono ?_); rintro ev w6 ⟨rfl, hr3, hf3⟩; have hf6 := hf1.same (hf2.same hf3); have hc3 := hr3.blk.cell; have hd3 : DecR w6 db sb i sm 0 := hf6.blk hd.blk hDS)
                | (go_at_call 47; (with_reducible refine ((hab _ hr3 hd3).out).mono ?_); rintro ev w8 ⟨rfl, hr5, hf5⟩))
              go_roundg 0
              case measure => omega
              case rel => exact ⟨q, la, k + 1, rfl, rfl, by go_num, RRun.dead hRb.out hEne hr5, (hF.same (hf6.mono (fun k hk => .inl (by simp at hk ⊢; omega)))).same hf5⟩
            · rw [if_neg h38] at hR2
              obtain ⟨e4, hb4⟩ : ∃ e4, (c.infoBad = true ∧ e4 = 4) ∨ (c.infoBad = false ∧ e4 = 0) := by
                cases hh : c.infoBad
                · exact ⟨0, .inr ⟨rfl, rfl⟩⟩
                · exact ⟨4, .inl ⟨rfl, rfl⟩⟩
              have hab : ∀ W, RefB W rb sb c 0 (8 * (q + 4)) → DecR W db sb i sm 0 → Hid (Calls Tryz.prog 47 #[.pointer (some ⟨db, 0, none⟩), .pointer (some ⟨rb, 0, none⟩)] W fun ev w' => ev = .returned (.tuple #[]) ∧ RefB w' rb sb c e4 (8 * (q + 38)) ∧ DecR w' db sb c.infI (c.text.extract 26 42) 0 ∧ Fr [rb, sb, db] W w') := fun W h1 h2 => rAbout_there hk h1 rfl hq4 (by omega) h2 e4 hb4
              have hb4' := Hid.mk2 hb4
              have hR2' := Hid.mk2 hR2
              have hkz' := Hid.mk2 hkz
              have h38' := Hid.mk2 h38
              clear hR2 h38 hq4 hkz hb4
              go_wp2_with (first
                | (go_at_call 46; (with_reducible refine (k1.out).mono ?_); rintro ev w4 ⟨rfl, hr1, hf1⟩)
                | (go_at_call 46; (with_reducible refine ((k2 _ hr1).out).mono ?_); rintro ev w5 ⟨rfl, hr2, hf2⟩)
                | (go_at_call 46; (with_reducible refine ((k3 _ hr2).out).mono ?_); rintro ev w6 ⟨rfl, hr3, hf3⟩; have hf6 := hf1.same (hf2.same hf3); have hc3 := hr3.blk.cell; have hd3 : DecR w6 db sb i sm 0 := hf6.blk hd.blk hDS)
                | (go_at_call 47; (with_reducible refine ((hab _ hr3 hd3).out).mono ?_); rintro ev w8 ⟨rfl, hr5, hd5, hf5⟩))
              have hFe := (hF.same (hf6.mono (T := [rb, sb, db]) (fun k hk => .inl (by simp at hk ⊢; omega)))).same hf5
              have hn : ∃ g, g < f + 1 + 1 ∧ RRun c rb sb db R w8 g (k + 1) la q := by
                rcases hb4'.out with ⟨hb, rfl⟩ | ⟨hb, rfl⟩
                · have := hR2'.out
                  rw [if_pos hb] at this
                  exact ⟨0, by omega, RRun.dead this (by decide) ⟨_, hr5⟩⟩
                · have := hR2'.out
                  rw [hb] at this
                  simp only [Bool.false_eq_true, if_false] at this
                  have h1 := h38'.out
                  exact RRun.next hla this hfK.out (by omega) (by omega) hkq hr5 hd5
              obtain ⟨gn, hgn, hMn⟩ := hn
              go_roundg gn
              case measure => exact hgn
              case rel => exact ⟨q, la, k + 1, rfl, rfl, by go_num, hMn, hFe⟩
          · have hkz : k ≠ 0 := by simpa using hkt
            have hR2 := hR.trans (openGo_more h4 hmb hkz)
            obtain ⟨hi1, hi2⟩ := hk1'.out hkz
            generalize c.lastN q = la at *
            generalize c.kindN q = ki at *
            generalize c.lenN q = le at *
            have hlx : le < 68719476736 := by omega
            clear hR h4 hmb hf hq hin4 hkz
            by_cases hps : c.lim.1 < q + 4 + le
            · have hRb : Hid (R = .bad E q) := by rw [hR2, if_pos hps, hE'.out]; rfl
              have hab : ∀ W, RefB W rb sb c 0 (8 * (q + 4)) → Hid (Calls Tryz.prog 48 #[.pointer (some ⟨rb, 0, none⟩), .int .i64 le] W fun ev w' => ev = .returned (.tuple #[]) ∧ (∃ p', RefB w' rb sb c E p') ∧ Fr [rb, sb] W w') := fun W h1 => by
                have := rPass_short hk h1 rfl hp4 hlx hps
                rw [hE'.out] at this
                exact this
              clear hR2 hps hi1 hi2
              go_wp2_with (first
                | (go_at_call 46; (with_reducible refine (k1.out).mono ?_); rintro ev w4 ⟨rfl, hr1, hf1⟩)
                | (go_at_call 46; (with_reducible refine ((k2 _ hr1).out).mono ?_); rintro ev w5 ⟨rfl, hr2, hf2⟩)
                | (go_at_call 46; (with_reducible refine ((k3 _ hr2).out).mono ?_); rintro ev w6 ⟨rfl, hr3, hf3⟩; have hf6 := hf1.same (hf2.same hf3); have hc3 := hr3.blk.cell)
                | (go_at_call 48; (with_reducible refine ((hab _ hr3).out).mono ?_); rintro ev w8 ⟨rfl, hr5, hf5⟩))
              go_roundg 0
              case measure => omega
              case rel => exact ⟨q, la, k + 1, rfl, rfl, by go_num, RRun.dead hRb.out hEne hr5, hF.same ((hf6.same hf5).mono (fun k hk => .inl (by simp at hk ⊢; omega)))⟩
            · rw [if_neg hps] at hR2
              have hab : ∀ W, RefB W rb sb c 0 (8 * (q + 4)) → Hid (Calls Tryz.prog 48 #[.pointer (some ⟨rb, 0, none⟩), .int .i64 le] W fun ev w' => ev = .returned (.tuple #[]) ∧ RefB w' rb sb c 0 (8 * (q + 4 + le)) ∧ Fr [rb, sb] W w') := fun W h1 => rPass_ok hk h1 rfl hp4 hlx (by omega)
              have hR2' := Hid.mk2 hR2
              have hps' := Hid.mk2 hps
              have hi' : Hid (i = c.infI ∧ sm = c.text.extract 26 42) := ⟨hi1, hi2⟩
              clear hR2 hps hi1 hi2
              go_wp2_with (first
                | (go_at_call 46; (with_reducible refine (k1.out).mono ?_); rintro ev w4 ⟨rfl, hr1, hf1⟩)
                | (go_at_call 46; (with_reducible refine ((k2 _ hr1).out).mono ?_); rintro ev w5 ⟨rfl, hr2, hf2⟩)
                | (go_at_call 46; (with_reducible refine ((k3 _ hr2).out).mono ?_); rintro ev w6 ⟨rfl, hr3, hf3⟩; have hf6 := hf1.same (hf2.same hf3); have hc3 := hr3.blk.cell)
                | (go_at_call 48; (with_reducible refine ((hab _ hr3).out).mono ?_); rintro ev w8 ⟨rfl, hr5, hf5⟩))
              have hfe := hf6.same hf5
              have hd5 : DecR w8 db sb i sm 0 := hfe.blk hd.blk hDS
              have hn : ∃ g, g < f + 1 + 1 ∧ RRun c rb sb db R w8 g (k + 1) la q := by
                have h1 := hps'.out
                rw [hi'.out.1, hi'.out.2] at hd5
                exact RRun.next hla hR2'.out hfK.out (by omega) (by omega) hkq hr5 hd5
              obtain ⟨gn, hgn, hMn⟩ := hn
              go_roundg gn
              case measure => exact hgn
              case rel => exact ⟨q, la, k + 1, rfl, rfl, by go_num, hMn, hF.same (hfe.mono (fun k hk => .inl (by simp at hk ⊢; omega)))⟩
    · have hcr := hr.blk.cell
      have hcs := hr.doc.blk.cell
      have hcd := hd.blk.cell
      have hzd := hd.blk.frozen
      have hflt3 := hF.blk hflt hfS
      have hD : Blk (wr.setCell ⟨db, 10, none⟩ (.int .i64 q)) db #[.pointer (some ⟨sb, 0, none⟩), .int .i64 (c.infI 0), .int .i64 (c.infI 1), .int .i64 (c.infI 2), .int .i64 (c.infI 3), .int .i64 (c.infI 4), .int .i64 (c.infI 5), .int .i64 (c.infI 6), .int .i64 (c.infI 7), .string (c.text.extract 26 42), .int .i64 q, .int .i64 0, .int .i64 0, .bool false, .string ⟨#[]⟩, .int .i64 0, .int .i64 0, .int .i64 0] 110 := hd.blk.set 10 _
      have hflt4 := (Fr.set (S := [db]) (w := wr) (a := ⟨db, 10, none⟩) (.int .i64 q) (List.mem_singleton.2 rfl)).blk hflt3 (by simp at hfS; simp; omega)
      have hcf := hflt4.cell
      have hzf := hflt4.frozen
      have hq8 : q ≤ 1048576 := by have := hk.small; omega
      have hp8 : ((8 * (q : Int)).tdiv 8) = (q : Int) := by rw [Int.tdiv_eq_ediv_of_nonneg (by omega)]; omega
      go_wp2_with fail
      refine bodyPost_ret (results_tc rfl _ _ w.heap.size 46 #[.int .i64 0, .int .i64 0, .int .i64 0] (0, 0) _ rfl (((hflt4.set 0 _).set 1 _).set 2 _) Tryz.underlying46 rfl (by kernel_rfl)) rfl ?_
      have hdw := hlw.out.2.1
      exact .inr ⟨q, db, sb, rfl, rfl, (fr3 w.heap.size _ 0 1 2 _ _ _).blk hD (by simp at hfS; simp; omega), ((((ropen_fr3' hlw.out hF).setNew _ hdw).setNew _ (Nat.le_refl _)).setNew _ (Nat.le_refl _)).setNew _ (Nat.le_refl _), hdw⟩
    · have he1 : ((e : Int) == 0) = false := by simpa using he
      have he2 : ((e : Int) != 0) = true := by simpa using he
      have hcr := hr.blk.cell
      have hflt3 := hF.blk hflt hfS
      have hcf := hflt3.cell
      have hzf := hflt3.frozen
      clear he
      go_wp2_with fail
      go_region
      all_goals go_wp2_with fail
      refine bodyPost_ret (results_tc rfl _ _ w.heap.size 46 #[.int .i64 e, .int .i64 (-1), .int .i64 at_] (0, 0) _ rfl ((((hflt3.set 0 _).set 1 _).set 2 _).drewN 1) Tryz.underlying46 rfl (by kernel_rfl)) rfl ?_
      exact .inl ⟨e, at_, rfl, rfl, ropen_fr3 hlw.out hF (w.heap.size) (Nat.le_refl _) _ _ _⟩

end Go.Proofs.YthigfpaajbejdaaGreatDoor
