/-
  flacpairlaw.asked, walked: one op, the program's reader and the document's stream side by side.
-/
import Derived.Test.YthigfpaajbejdaaDoorPlainBits
namespace Go.Proofs.YthigfpaajbejdaaDoor
open Go.RowKit

/-- Where the source comes to, of a reader that stands. -/
theorem RdS.limOk {q : Bool} {B : Nat} {w : World} {rb bs : Nat} {c : Cfg} {p : Nat} {S : List Nat} (h : RdS q B w rb bs c p S) : LimOk c := by
  obtain ⟨fb, tk, ft, left, k, err, v, xs, hv, _⟩ := h.feed
  have hs : c.lim.2 = 1 ∨ c.lim.2 = 14 ∨ c.lim.2 = 16 := by
    unfold Cfg.lim
    exact (limGo_bounds c.len c.broken c.ps 0 0 (Nat.zero_le _) (fun h => by omega)).2.2
  exact ⟨h.lim.2.1, h.lim.2.2, hs⟩
/-- A one comes, or none. -/
theorem Cfg.una_or (c : Cfg) (p : Nat) : ∀ N, (∃ n, n < N ∧ c.una p n) ∨ c.bits p N = 0
  | 0 => .inr rfl
  | N + 1 => by
    rcases c.una_or p N with ⟨n, h1, h2⟩ | h
    · exact .inl ⟨n, by omega, h2⟩
    · have hb := c.bit_lt (p + N)
      rcases Nat.lt_or_ge (c.bit (p + N)) 1 with h1 | h1
      · refine .inr ?_
        show 2 * c.bits p N + c.bit (p + N) = 0
        omega
      · exact .inl ⟨N, by omega, h, by omega⟩

/-- The program's reader and the document's stream have read the same bits. -/
structure Both (q : Bool) (B : Nat) (pb tb rb bs sb : Nat) (c : Cfg) (w : World) (p : Nat) (S : List Nat) : Prop where
  rdr : PB q B pb tb rb bs c w p S
  doc : StreamB w sb c p
  nsb : sb ∉ S
  gl : GlB B w
  ab : B ≤ sb
section
variable {q : Bool} {B : Nat} {w w0 w1 w2 w3 w4 : World} {pb tb rb bs sb : Nat} {c : Cfg} {p p' : Nat} {S T : List Nat}
theorem Both.still (h : Both q B pb tb rb bs sb c w p S) (hf : Fr [] w w1) : Both q B pb tb rb bs sb c w1 p S :=
  ⟨h.rdr.still hf, hf.blk h.doc.blk (by simp), h.nsb, h.gl.keep hf (by simp), h.ab⟩
/-- What asked gives. -/
def AskPost (q : Bool) (B : Nat) (pb tb rb bs sb : Nat) (c : Cfg) (S : List Nat) (w : World) (e : Ending) (w' : World) : Prop :=
  e = .returned (.bool true) ∧ ∃ p' S', Fr (sb :: S) w w' ∧ Both q B pb tb rb bs sb c w' p' S' ∧ ∀ x ∈ S', x ∈ S ∨ w.heap.size ≤ x
theorem Both.mid (h : Both q B pb tb rb bs sb c w p S) (hm : Moved (PB q B pb tb rb bs c) (w.alloc (.cells #[.int .i64 0, .int .i64 0, .int .i64 0] 24)) S p' w1) (hf2 : Fr [w.heap.size] w1 w2) :
    ∃ S', PB q B pb tb rb bs c w2 p' S' ∧ StreamB w2 sb c p ∧ sb ∉ S' ∧ Fr S w w2 ∧ (∀ x ∈ S', x ∈ S ∨ w.heap.size ≤ x) := by
  obtain ⟨hF, S1, hp, hn⟩ := hm
  have hall := h.rdr.rd.all
  have hpb := h.rdr.blk.lt
  have htb := h.rdr.told.blk.lt
  have hsb := h.doc.blk.lt
  have hB : B ≤ w.heap.size := by have := h.ab; omega
  have hNS1 : w.heap.size ∉ S1 := fun hx => by
    rcases hn _ hx with h1 | h1
    · have := (hall _ h1).2; omega
    · simp at h1; omega
  have hsz : ∀ x ∈ S1, x ∈ S ∨ w.heap.size + 1 ≤ x := fun x hx => (hn x hx).imp_right (fun h1 => by simpa using h1)
  have hF1 : Fr S w w1 := ((Fr.alloc [] w _).mono (by simp)).same hF
  have hFw : Fr S w w2 := hF1.trans hf2 (fun k hk => .inr (by rw [List.mem_singleton] at hk; omega))
  refine ⟨S1, hp.keep hf2 (fun x hx hx' => hNS1 (by rw [List.mem_singleton] at hx'; subst hx'; exact hx)) (fun x hx => by rw [List.mem_singleton] at hx; omega) (by rw [List.mem_singleton]; omega) (by rw [List.mem_singleton]; omega), hFw.blk h.doc.blk h.nsb, fun hx => ?_, hFw, fun x hx => (hsz x hx).imp_right (fun h1 => by omega)⟩
  rcases hsz sb hx with h1 | h1
  · exact h.nsb h1
  · omega
theorem Both.pb3 (h : Both q B pb tb rb bs sb c w p S) {S' : List Nat} (hp : PB q B pb tb rb bs c w2 p' S') (hn : sb ∉ S') (hf3 : Fr [sb] w2 w3) : PB q B pb tb rb bs c w3 p' S' := by
  refine hp.keep hf3 (fun x hx hx' => hn (by rw [List.mem_singleton] at hx'; subst hx'; exact hx)) (fun x hx => by rw [List.mem_singleton] at hx; subst hx; exact h.ab) ?_ ?_
  · rw [List.mem_singleton]; exact h.rdr.blk.ne h.doc.blk (by decide)
  · rw [List.mem_singleton]; exact h.rdr.told.blk.ne h.doc.blk (by decide)
theorem Both.fin (h : Both q B pb tb rb bs sb c w p S) {S' : List Nat} (hp : PB q B pb tb rb bs c w2 p' S') (hn : sb ∉ S') (hF : Fr S w w2) (hx : ∀ x ∈ S', x ∈ S ∨ w.heap.size ≤ x) (hs : StreamB w3 sb c p') (hf3 : Fr [sb] w2 w3) (n : Nat) :
    AskPost q B pb tb rb bs sb c S w (.returned (.bool true)) (w3.drewN n) := by
  have hF3 : Fr (sb :: S) w w3 := (hF.mono (fun k hk => .inl (List.mem_cons_of_mem _ hk))).same (hf3.mono (fun k hk => .inl (by rw [List.mem_singleton] at hk; subst hk; exact List.mem_cons_self ..)))
  have hall := h.rdr.rd.all
  have hB : Both q B pb tb rb bs sb c w3 p' S' := by
    refine ⟨h.pb3 hp hn hf3, hs, hn, h.gl.keep hF3 (fun x hx => ?_), h.ab⟩
    · rcases List.mem_cons.1 hx with rfl | hx
      · exact h.ab
      · exact (hall x hx).1
  exact ⟨rfl, p', S', hF3.drewN' n, hB.still (Fr.drewN [] w3 n), hx⟩
end
theorem pAt_any {q : Bool} {B : Nat} {w : World} {pb tb rb bs : Nat} {c : Cfg} {p : Nat} {S : List Nat} (h : PB q B pb tb rb bs c w p S) :
    Calls Tryd.prog 25 #[.pointer (some ⟨pb, 0, none⟩)] w fun e w' => e = .returned (.int .i64 p) ∧ ∃ n, w' = w.drewN n := by
  have hm : ∀ (a : Addr) (w : World), (Go.method 336 102 (.pointer (some a)) "At").run Tryd.prog w = .ok (113, .pointer (some a)) w := fun a w => by kernel_rfl
  have hc := h.blk.cell
  have hcall := tAt_any h.told h.rd
  go_enter Tryd.func25, Tryd.ntmps25
  go_wp2_with (go_at_call 113; refine hcall.mono ?_; rintro e w1 ⟨rfl, n1, rfl⟩)
  go_ret
  exact ⟨rfl, n1, rfl⟩

set_option maxRecDepth 100000 in
set_option maxHeartbeats 2000000 in
theorem asked_Read_ok {q : Bool} {B : Nat} {w : World} {pb tb rb bs sb : Nat} {c : Cfg} {p p' : Nat} {S : List Nat} (h : Both q B pb tb rb bs sb c w p S) (op : Int) (g1 : (op == -1) = false) (g2 : (op == -2) = false) (v : Int)
    (hb : ∀ W, PB q B pb tb rb bs c W p S → GlB B W → Calls Tryd.prog 23 #[.pointer (some ⟨pb, 0, none⟩), .int .i64 op] W fun e w' => e = .returned (.tuple #[.int .i64 v, .agg #[.int .i64 0, .int .i64 0, .int .i64 0]]) ∧ Moved (PB q B pb tb rb bs c) W S p' w')
    (hs : ∀ W, StreamB W sb c p → Calls Tryd.prog 24 #[.pointer (some ⟨sb, 0, none⟩), .int .i64 op] W fun e w' => e = .returned (.tuple #[.int .i64 v, .int .i64 0]) ∧ StreamB w' sb c p' ∧ Fr [sb] W w') :
    Calls Tryd.prog 11 #[.pointer (some ⟨pb, 0, none⟩), .pointer (some ⟨sb, 0, none⟩), .int .i64 op] w (AskPost q B pb tb rb bs sb c S w) := by
  have hlim := h.rdr.rd.lim
  have hp23 : p < 16777216 := by omega
  have h0 := h.still (Fr.alloc [] w (.cells #[.int .i64 0, .int .i64 0, .int .i64 0] 24))
  have hN0 := Blk.new w #[.int .i64 0, .int .i64 0, .int .i64 0] 24
  have hNS : w.heap.size ∉ S := fun hx => by have := (h.rdr.rd.all _ hx).2; omega
  have hNsb : w.heap.size ∉ [sb] := by have := h.doc.blk.lt; simp; omega
  have hb' := Hid.mk (hb _ h0.rdr h0.gl)
  have hs' := Hid.mk hs
  skip
  skip
  clear hb hs hlim
  go_enter Tryd.func11, Tryd.ntmps11
  go_wp2_with (first
    | (go_at_call 18; (with_reducible refine (rAt_any h.doc).mono ?_); rintro e W ⟨rfl, rfl⟩)
    | (go_at_call 23; refine hb'.out.mono ?_; rintro e w1 ⟨rfl, hm1⟩; have hN1 := hm1.1.blk hN0 hNS; have hc1 := hN1.cell; have hz1 := hN1.frozen)
    | (go_at_call 24; obtain ⟨S2, hp2, hs2, hns2, hF2, hx2⟩ := h.mid hm1 (fr3 w.heap.size w1 0 1 2 _ _ _); have hN2 : Blk _ w.heap.size #[.int .i64 0, .int .i64 0, .int .i64 0] 24 := ((hN1.set 0 _).set 1 _).set 2 _; refine (hs'.out _ hs2).mono ?_; rintro e w3 ⟨rfl, hs3, hf3⟩; have hN3 := hf3.blk hN2 hNsb; have hp3 := h.pb3 hp2 hns2 hf3)
    | (go_at_call 25; (with_reducible refine (pAt_any hp3).mono ?_); rintro e w4 ⟨rfl, n4, rfl⟩; have hc4 := (hN3.drewN n4).cell)
    | (go_at_call 18; (with_reducible refine (rAt_any (hs3.drewN n4)).mono ?_); rintro e W ⟨rfl, rfl⟩))
  go_ret
  exact h.fin hp2 hns2 hF2 hx2 hs3 hf3 n4

set_option maxRecDepth 100000 in
set_option maxHeartbeats 2000000 in
theorem asked_Read_err {q : Bool} {B : Nat} {w : World} {pb tb rb bs sb : Nat} {c : Cfg} {p p' : Nat} {S : List Nat} (h : Both q B pb tb rb bs sb c w p S) (op : Int) (g1 : (op == -1) = false) (g2 : (op == -2) = false) (e0 : Nat) (he0 : e0 ≠ 0) (v : Int)
    (hb : ∀ W, PB q B pb tb rb bs c W p S → GlB B W → Calls Tryd.prog 23 #[.pointer (some ⟨pb, 0, none⟩), .int .i64 op] W fun e w' => e = .returned (.tuple #[.int .i64 v, .agg #[.int .i64 e0, .int .i64 (-1), .int .i64 (p / 8 : Nat)]]) ∧ Moved (PB q B pb tb rb bs c) W S p' w')
    (hs : ∀ W, StreamB W sb c p → Calls Tryd.prog 24 #[.pointer (some ⟨sb, 0, none⟩), .int .i64 op] W fun e w' => e = .returned (.tuple #[.int .i64 v, .int .i64 e0]) ∧ StreamB w' sb c p' ∧ Fr [sb] W w') :
    Calls Tryd.prog 11 #[.pointer (some ⟨pb, 0, none⟩), .pointer (some ⟨sb, 0, none⟩), .int .i64 op] w (AskPost q B pb tb rb bs sb c S w) := by
  have hlim := h.rdr.rd.lim
  have hp23 : p < 16777216 := by omega
  have h0 := h.still (Fr.alloc [] w (.cells #[.int .i64 0, .int .i64 0, .int .i64 0] 24))
  have hN0 := Blk.new w #[.int .i64 0, .int .i64 0, .int .i64 0] 24
  have hNS : w.heap.size ∉ S := fun hx => by have := (h.rdr.rd.all _ hx).2; omega
  have hNsb : w.heap.size ∉ [sb] := by have := h.doc.blk.lt; simp; omega
  have hb' := Hid.mk (hb _ h0.rdr h0.gl)
  have hs' := Hid.mk hs
  have hne : ((e0 : Int) == 0) = false := by simp; omega
  clear he0
  clear hb hs hlim
  go_enter Tryd.func11, Tryd.ntmps11
  go_wp2_with (first
    | (go_at_call 18; (with_reducible refine (rAt_any h.doc).mono ?_); rintro e W ⟨rfl, rfl⟩)
    | (go_at_call 23; refine hb'.out.mono ?_; rintro e w1 ⟨rfl, hm1⟩; have hN1 := hm1.1.blk hN0 hNS; have hc1 := hN1.cell; have hz1 := hN1.frozen)
    | (go_at_call 24; obtain ⟨S2, hp2, hs2, hns2, hF2, hx2⟩ := h.mid hm1 (fr3 w.heap.size w1 0 1 2 _ _ _); have hN2 : Blk _ w.heap.size #[.int .i64 e0, .int .i64 (-1), .int .i64 (p / 8 : Nat)] 24 := ((hN1.set 0 _).set 1 _).set 2 _; refine (hs'.out _ hs2).mono ?_; rintro e w3 ⟨rfl, hs3, hf3⟩; have hN3 := hf3.blk hN2 hNsb; have hp3 := h.pb3 hp2 hns2 hf3)
    | (go_at_call 25; (with_reducible refine (pAt_any hp3).mono ?_); rintro e w4 ⟨rfl, n4, rfl⟩; have hc4 := (hN3.drewN n4).cell)
    | (go_at_call 18; (with_reducible refine (rAt_any (hs3.drewN n4)).mono ?_); rintro e W ⟨rfl, rfl⟩))
  go_ret
  exact h.fin hp2 hns2 hF2 hx2 hs3 hf3 n4

set_option maxRecDepth 100000 in
set_option maxHeartbeats 2000000 in
theorem asked_Unary_ok {q : Bool} {B : Nat} {w : World} {pb tb rb bs sb : Nat} {c : Cfg} {p p' : Nat} {S : List Nat} (h : Both q B pb tb rb bs sb c w p S) (v : Int)
    (hb : ∀ W, PB q B pb tb rb bs c W p S → GlB B W → Calls Tryd.prog 19 #[.pointer (some ⟨pb, 0, none⟩)] W fun e w' => e = .returned (.tuple #[.int .i64 v, .agg #[.int .i64 0, .int .i64 0, .int .i64 0]]) ∧ Moved (PB q B pb tb rb bs c) W S p' w')
    (hs : ∀ W, StreamB W sb c p → Calls Tryd.prog 20 #[.pointer (some ⟨sb, 0, none⟩)] W fun e w' => e = .returned (.tuple #[.int .i64 v, .int .i64 0]) ∧ StreamB w' sb c p' ∧ Fr [sb] W w') :
    Calls Tryd.prog 11 #[.pointer (some ⟨pb, 0, none⟩), .pointer (some ⟨sb, 0, none⟩), .int .i64 (-1)] w (AskPost q B pb tb rb bs sb c S w) := by
  have hlim := h.rdr.rd.lim
  have hp23 : p < 16777216 := by omega
  have h0 := h.still (Fr.alloc [] w (.cells #[.int .i64 0, .int .i64 0, .int .i64 0] 24))
  have hN0 := Blk.new w #[.int .i64 0, .int .i64 0, .int .i64 0] 24
  have hNS : w.heap.size ∉ S := fun hx => by have := (h.rdr.rd.all _ hx).2; omega
  have hNsb : w.heap.size ∉ [sb] := by have := h.doc.blk.lt; simp; omega
  have hb' := Hid.mk (hb _ h0.rdr h0.gl)
  have hs' := Hid.mk hs
  skip
  skip
  clear hb hs hlim
  go_enter Tryd.func11, Tryd.ntmps11
  go_wp2_with (first
    | (go_at_call 18; (with_reducible refine (rAt_any h.doc).mono ?_); rintro e W ⟨rfl, rfl⟩)
    | (go_at_call 19; refine hb'.out.mono ?_; rintro e w1 ⟨rfl, hm1⟩; have hN1 := hm1.1.blk hN0 hNS; have hc1 := hN1.cell; have hz1 := hN1.frozen)
    | (go_at_call 20; obtain ⟨S2, hp2, hs2, hns2, hF2, hx2⟩ := h.mid hm1 (fr3 w.heap.size w1 0 1 2 _ _ _); have hN2 : Blk _ w.heap.size #[.int .i64 0, .int .i64 0, .int .i64 0] 24 := ((hN1.set 0 _).set 1 _).set 2 _; refine (hs'.out _ hs2).mono ?_; rintro e w3 ⟨rfl, hs3, hf3⟩; have hN3 := hf3.blk hN2 hNsb; have hp3 := h.pb3 hp2 hns2 hf3)
    | (go_at_call 25; (with_reducible refine (pAt_any hp3).mono ?_); rintro e w4 ⟨rfl, n4, rfl⟩; have hc4 := (hN3.drewN n4).cell)
    | (go_at_call 18; (with_reducible refine (rAt_any (hs3.drewN n4)).mono ?_); rintro e W ⟨rfl, rfl⟩))
  go_ret
  exact h.fin hp2 hns2 hF2 hx2 hs3 hf3 n4

set_option maxRecDepth 100000 in
set_option maxHeartbeats 2000000 in
theorem asked_Unary_err {q : Bool} {B : Nat} {w : World} {pb tb rb bs sb : Nat} {c : Cfg} {p p' : Nat} {S : List Nat} (h : Both q B pb tb rb bs sb c w p S) (e0 : Nat) (he0 : e0 ≠ 0) (v : Int)
    (hb : ∀ W, PB q B pb tb rb bs c W p S → GlB B W → Calls Tryd.prog 19 #[.pointer (some ⟨pb, 0, none⟩)] W fun e w' => e = .returned (.tuple #[.int .i64 v, .agg #[.int .i64 e0, .int .i64 (-1), .int .i64 (p / 8 : Nat)]]) ∧ Moved (PB q B pb tb rb bs c) W S p' w')
    (hs : ∀ W, StreamB W sb c p → Calls Tryd.prog 20 #[.pointer (some ⟨sb, 0, none⟩)] W fun e w' => e = .returned (.tuple #[.int .i64 v, .int .i64 e0]) ∧ StreamB w' sb c p' ∧ Fr [sb] W w') :
    Calls Tryd.prog 11 #[.pointer (some ⟨pb, 0, none⟩), .pointer (some ⟨sb, 0, none⟩), .int .i64 (-1)] w (AskPost q B pb tb rb bs sb c S w) := by
  have hlim := h.rdr.rd.lim
  have hp23 : p < 16777216 := by omega
  have h0 := h.still (Fr.alloc [] w (.cells #[.int .i64 0, .int .i64 0, .int .i64 0] 24))
  have hN0 := Blk.new w #[.int .i64 0, .int .i64 0, .int .i64 0] 24
  have hNS : w.heap.size ∉ S := fun hx => by have := (h.rdr.rd.all _ hx).2; omega
  have hNsb : w.heap.size ∉ [sb] := by have := h.doc.blk.lt; simp; omega
  have hb' := Hid.mk (hb _ h0.rdr h0.gl)
  have hs' := Hid.mk hs
  have hne : ((e0 : Int) == 0) = false := by simp; omega
  clear he0
  clear hb hs hlim
  go_enter Tryd.func11, Tryd.ntmps11
  go_wp2_with (first
    | (go_at_call 18; (with_reducible refine (rAt_any h.doc).mono ?_); rintro e W ⟨rfl, rfl⟩)
    | (go_at_call 19; refine hb'.out.mono ?_; rintro e w1 ⟨rfl, hm1⟩; have hN1 := hm1.1.blk hN0 hNS; have hc1 := hN1.cell; have hz1 := hN1.frozen)
    | (go_at_call 20; obtain ⟨S2, hp2, hs2, hns2, hF2, hx2⟩ := h.mid hm1 (fr3 w.heap.size w1 0 1 2 _ _ _); have hN2 : Blk _ w.heap.size #[.int .i64 e0, .int .i64 (-1), .int .i64 (p / 8 : Nat)] 24 := ((hN1.set 0 _).set 1 _).set 2 _; refine (hs'.out _ hs2).mono ?_; rintro e w3 ⟨rfl, hs3, hf3⟩; have hN3 := hf3.blk hN2 hNsb; have hp3 := h.pb3 hp2 hns2 hf3)
    | (go_at_call 25; (with_reducible refine (pAt_any hp3).mono ?_); rintro e w4 ⟨rfl, n4, rfl⟩; have hc4 := (hN3.drewN n4).cell)
    | (go_at_call 18; (with_reducible refine (rAt_any (hs3.drewN n4)).mono ?_); rintro e W ⟨rfl, rfl⟩))
  go_ret
  exact h.fin hp2 hns2 hF2 hx2 hs3 hf3 n4

set_option maxRecDepth 100000 in
set_option maxHeartbeats 2000000 in
theorem asked_Align_ok {q : Bool} {B : Nat} {w : World} {pb tb rb bs sb : Nat} {c : Cfg} {p p' : Nat} {S : List Nat} (h : Both q B pb tb rb bs sb c w p S) (v : Bool)
    (hb : ∀ W, PB q B pb tb rb bs c W p S → GlB B W → Calls Tryd.prog 21 #[.pointer (some ⟨pb, 0, none⟩)] W fun e w' => e = .returned (.tuple #[.bool v, .agg #[.int .i64 0, .int .i64 0, .int .i64 0]]) ∧ Moved (PB q B pb tb rb bs c) W S p' w')
    (hs : ∀ W, StreamB W sb c p → Calls Tryd.prog 22 #[.pointer (some ⟨sb, 0, none⟩)] W fun e w' => e = .returned (.tuple #[.bool v, .int .i64 0]) ∧ StreamB w' sb c p' ∧ Fr [sb] W w') :
    Calls Tryd.prog 11 #[.pointer (some ⟨pb, 0, none⟩), .pointer (some ⟨sb, 0, none⟩), .int .i64 (-2)] w (AskPost q B pb tb rb bs sb c S w) := by
  have hlim := h.rdr.rd.lim
  have hp23 : p < 16777216 := by omega
  have h0 := h.still (Fr.alloc [] w (.cells #[.int .i64 0, .int .i64 0, .int .i64 0] 24))
  have hN0 := Blk.new w #[.int .i64 0, .int .i64 0, .int .i64 0] 24
  have hNS : w.heap.size ∉ S := fun hx => by have := (h.rdr.rd.all _ hx).2; omega
  have hNsb : w.heap.size ∉ [sb] := by have := h.doc.blk.lt; simp; omega
  have hb' := Hid.mk (hb _ h0.rdr h0.gl)
  have hs' := Hid.mk hs
  skip
  skip
  clear hb hs hlim
  go_enter Tryd.func11, Tryd.ntmps11
  go_wp2_with (first
    | (go_at_call 18; (with_reducible refine (rAt_any h.doc).mono ?_); rintro e W ⟨rfl, rfl⟩)
    | (go_at_call 21; refine hb'.out.mono ?_; rintro e w1 ⟨rfl, hm1⟩; have hN1 := hm1.1.blk hN0 hNS; have hc1 := hN1.cell; have hz1 := hN1.frozen)
    | (go_at_call 22; obtain ⟨S2, hp2, hs2, hns2, hF2, hx2⟩ := h.mid hm1 (fr3 w.heap.size w1 0 1 2 _ _ _); have hN2 : Blk _ w.heap.size #[.int .i64 0, .int .i64 0, .int .i64 0] 24 := ((hN1.set 0 _).set 1 _).set 2 _; refine (hs'.out _ hs2).mono ?_; rintro e w3 ⟨rfl, hs3, hf3⟩; have hN3 := hf3.blk hN2 hNsb; have hp3 := h.pb3 hp2 hns2 hf3)
    | (go_at_call 25; (with_reducible refine (pAt_any hp3).mono ?_); rintro e w4 ⟨rfl, n4, rfl⟩; have hc4 := (hN3.drewN n4).cell)
    | (go_at_call 18; (with_reducible refine (rAt_any (hs3.drewN n4)).mono ?_); rintro e W ⟨rfl, rfl⟩))
  go_ret
  exact h.fin hp2 hns2 hF2 hx2 hs3 hf3 n4

theorem asked_any {q : Bool} {B : Nat} {w : World} {pb tb rb bs sb : Nat} {c : Cfg} {p : Nat} {S : List Nat} (h : Both q B pb tb rb bs sb c w p S) (op : Int) :
    Calls Tryd.prog 11 #[.pointer (some ⟨pb, 0, none⟩), .pointer (some ⟨sb, 0, none⟩), .int .i64 op] w (AskPost q B pb tb rb bs sb c S w) := by
  have hk := h.rdr.rd.limOk
  have hp := h.rdr.rd.lim.1
  obtain ⟨hl0, hl1, hl2⟩ := wantE_ne hk.stop
  by_cases h1 : op = -1
  · subst h1
    rcases c.una_or p (8 * c.lim.1 - p) with ⟨n, hn, hu⟩ | hz
    · exact asked_Unary_ok h (p' := p + n + 1) (n : Int) (fun W hP _ => pUnary_nil hP (n : Int) (fun W' hr => rdUnary_ok hr n hu (by omega))) (fun W hS => rUnary_ok hk hS n hu (by omega))
    · exact asked_Unary_err h (p' := p) (wantE c.lim.2) hl0 0 (fun W hP hG => pUnary_err hP hG (wantE c.lim.2) hl0 hl2 (fun W' hr => rdUnary_not hr hz hl0)) (fun W hS => rUnary_not hk hS hp hz)
  · by_cases h2 : op = -2
    · subst h2
      exact asked_Align_ok h (p' := p + toEnd p) (decide (c.bits p (toEnd p) = 0)) (fun W hP _ => pAlign_nil hP _ (fun W' hr => rdAlign_any hr)) (fun W hS => rAlign_any hk hS hp)
    · have g1 : (op == -1) = false := by simpa using h1
      have g2 : (op == -2) = false := by simpa using h2
      by_cases hr : op < 0 ∨ 64 < op
      · exact asked_Read_err h (p' := p) op g1 g2 15 (by decide) 0 (fun W hP hG => pRead_err hP hG op 15 (by decide) (by decide) (fun W' hr' => rdRead_arg hr' op hr)) (fun W hS => (rRead_arg op hr W).mono (by rintro e w' ⟨rfl, rfl⟩; exact ⟨rfl, hS, Fr.refl _ _⟩))
      · obtain ⟨n, rfl⟩ : ∃ n : Nat, op = n := ⟨op.toNat, by omega⟩
        have hn : n ≤ 64 := by omega
        by_cases hin : p + n ≤ 8 * c.lim.1
        · exact asked_Read_ok h (p' := p + n) n g1 g2 (around (c.bits p n)) (fun W hP _ => pRead_nil hP n ((c.bits p n : Nat) : Int) (fun W' hr' => rdRead_ok hr' n hn hin)) (fun W hS => rRead_ok hk hS n hn hin)
        · exact asked_Read_err h (p' := p) n g1 g2 (wantE c.lim.2) hl0 0 (fun W hP hG => pRead_err hP hG n (wantE c.lim.2) hl0 hl2 (fun W' hr' => rdRead_not hr' n hn (by omega) hl0)) (fun W hS => rRead_not hk hS n hn hp (by omega))
end Go.Proofs.YthigfpaajbejdaaDoor
