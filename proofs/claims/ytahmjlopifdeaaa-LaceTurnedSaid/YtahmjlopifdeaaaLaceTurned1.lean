/- DERIVED. LaceTurned: making a lace that has been turned round gives the turned loops, for every list of bytes; there are no conditions. -/
import Derived.Test.YtahmjlopifdeaaaB4
import Derived.Test.YtahmjlopifdeaaaRows
import Derived.JoinedOf
import Derived.JoinedAt
import Derived.OpenShut
set_option linter.unusedVariables false
set_option linter.unusedSimpArgs false
set_option linter.unusedVariables false
set_option linter.unusedSimpArgs false
namespace AL
open Go

theorem c_Rise {h : AH} {m : Nat} {v : AV} {l : List Int} (hs : Ints m h v l) (hm : m ≤ h.size) {n : Nat} (hn : 1 ≤ n ∧ n ≤ 7) (ho : IsOrder l n) :
    WF FT NT 12 [v] h fun r h' => Keeps h.size h h' ∧ ∃ u, r = .tuple [u, I 0] ∧ ∀ g, v_len false u g = some (I (riseS l).length, g) := by
  refine WF.body' (A := A12) rfl rfl rfl fun R r => ?_
  simp only [wxs, ↓reduceIte, Nat.reduceEqDiff, Nat.reduceAdd, Nat.reduceLT, reduceCtorEq, Int.reduceLE, Int.reduceLT, Int.reduceEq, Int.reduceNeg, Nat.reduceLeDiff, Nat.reduceBEq, A12]
  refine (c_alone hs hm n hn ho).mono ?_
  rintro v1 h1 ⟨hk1, rfl⟩
  simp only [wxs, ↓reduceIte, Nat.reduceEqDiff, Nat.reduceAdd, Nat.reduceLT, reduceCtorEq, Int.reduceLE, Int.reduceLT, Int.reduceEq, Int.reduceNeg, Nat.reduceLeDiff, Nat.reduceBEq]
  refine (c_rise (hs.keep (hk1.lower hm)) (Nat.le_trans hm hk1.2.1) (by have := ho.1; omega)).mono ?_
  rintro v2 h2 ⟨hk2, ho2⟩
  simp only [wxs, ↓reduceIte, Nat.reduceEqDiff, Nat.reduceAdd, Nat.reduceLT, reduceCtorEq, Int.reduceLE, Int.reduceLT, Int.reduceEq, Int.reduceNeg, Nat.reduceLeDiff, Nat.reduceBEq]
  exact r _ _ ⟨hk1.trans hk2 hk1.2.1, v2, rfl, fun g => ho2.sl.len g⟩

theorem c_equal {h : AH} {m m' : Nat} {v w : AV} {l l' : List Int} (hs : Ints m h v l) (hs' : Ints m' h w l') (hn : l.length < 4611686018427387904) :
    WF FT NT 16 [v, w] h fun r h' => h' = h ∧ r = .bool (decide (l = l')) := by
  have hlen := fun h => hs.len h
  have hlen' := fun h => hs'.len h
  refine WF.body' (A := A16) rfl rfl rfl fun R r => ?_
  by_cases hl : l.length = l'.length
  · have hli : (l.length : Int) = (l'.length : Int) := by omega
    simp only [wxs, ↓reduceIte, Nat.reduceEqDiff, Nat.reduceAdd, Nat.reduceLT, reduceCtorEq, Int.reduceLE, Int.reduceLT, Int.reduceEq, Int.reduceNeg, Nat.reduceLeDiff, Nat.reduceBEq, A16, hlen, hlen', hli]
    refine WS.range (cnt := 13) (lim := 12) (S := Unit) l'.length (fun _ _ => [(0, v), (1, w)]) (fun i _ h' => h' = h ∧ l.take i = l'.take i) (fun a h' => h' = h ∧ l = l') () (by decide) (by omega) (fun _ _ => rfl)
      (by simp only [wxs, ↓reduceIte, Nat.reduceEqDiff, Nat.reduceAdd, Nat.reduceLT, reduceCtorEq, Int.reduceLE, Int.reduceLT, Int.reduceEq, Int.reduceNeg, Nat.reduceLeDiff, Nat.reduceBEq]) (by simp only [wxs, ↓reduceIte, Nat.reduceEqDiff, Nat.reduceAdd, Nat.reduceLT, reduceCtorEq, Int.reduceLE, Int.reduceLT, Int.reduceEq, Int.reduceNeg, Nat.reduceLeDiff, Nat.reduceBEq]) (by simp only [wxs, ↓reduceIte, Nat.reduceEqDiff, Nat.reduceAdd, Nat.reduceLT, reduceCtorEq, Int.reduceLE, Int.reduceLT, Int.reduceEq, Int.reduceNeg, Nat.reduceLeDiff, Nat.reduceBEq]) ⟨rfl, by simp⟩ ?_ ?_ ?_
    · rintro Q i _ a h' hi qn qc qx qj hc hlm he ⟨rfl, hx⟩
      simp only [env_cons, env_nil, and_true] at he
      obtain ⟨h0, h1⟩ := he
      obtain ⟨q, hix, hld⟩ := hs.ix (x := (i : Int)) (i := i) rfl (by omega)
      obtain ⟨q', hix', hld'⟩ := hs'.ix (x := (i : Int)) (i := i) rfl hi
      have g1 : l.getD i 0 = l[i] := by simp [hl, hi]
      have g2 : l'.getD i 0 = l'[i] := by simp [hi]
      by_cases he : l.getD i 0 = l'.getD i 0
      · simp only [wxs, ↓reduceIte, Nat.reduceEqDiff, Nat.reduceAdd, Nat.reduceLT, reduceCtorEq, Int.reduceLE, Int.reduceLT, Int.reduceEq, Int.reduceNeg, Nat.reduceLeDiff, Nat.reduceBEq, h0, h1, hc, hix, hld, hix', hld', he]
        refine qn () _ _ (by simp only [wxs, ↓reduceIte, Nat.reduceEqDiff, Nat.reduceAdd, Nat.reduceLT, reduceCtorEq, Int.reduceLE, Int.reduceLT, Int.reduceEq, Int.reduceNeg, Nat.reduceLeDiff, Nat.reduceBEq, hc]) (by simp only [wxs, ↓reduceIte, Nat.reduceEqDiff, Nat.reduceAdd, Nat.reduceLT, reduceCtorEq, Int.reduceLE, Int.reduceLT, Int.reduceEq, Int.reduceNeg, Nat.reduceLeDiff, Nat.reduceBEq, hlm]) (by simp only [wxs, ↓reduceIte, Nat.reduceEqDiff, Nat.reduceAdd, Nat.reduceLT, reduceCtorEq, Int.reduceLE, Int.reduceLT, Int.reduceEq, Int.reduceNeg, Nat.reduceLeDiff, Nat.reduceBEq, h0, h1]) ⟨rfl, ?_⟩
        rw [take_snoc l i (by omega), take_snoc l' i hi, hx, ← g1, ← g2, he]
      · simp only [wxs, ↓reduceIte, Nat.reduceEqDiff, Nat.reduceAdd, Nat.reduceLT, reduceCtorEq, Int.reduceLE, Int.reduceLT, Int.reduceEq, Int.reduceNeg, Nat.reduceLeDiff, Nat.reduceBEq, h0, h1, hc, hix, hld, hix', hld', he]
        refine qj _ _ _ (by simp) (by simp) ?_
        simp only [wxs, ↓reduceIte, Nat.reduceEqDiff, Nat.reduceAdd, Nat.reduceLT, reduceCtorEq, Int.reduceLE, Int.reduceLT, Int.reduceEq, Int.reduceNeg, Nat.reduceLeDiff, Nat.reduceBEq, h0, h1, hc]
        refine r _ _ ⟨rfl, ?_⟩
        have : l ≠ l' := fun e => he (by rw [e])
        simp [this]
    · rintro _ a h' _ ⟨rfl, hx⟩
      exact ⟨rfl, by rwa [List.take_of_length_le (by omega), List.take_of_length_le (Nat.le_refl _)] at hx⟩
    · rintro a h' ⟨rfl, hx⟩
      simp only [wxs, ↓reduceIte, Nat.reduceEqDiff, Nat.reduceAdd, Nat.reduceLT, reduceCtorEq, Int.reduceLE, Int.reduceLT, Int.reduceEq, Int.reduceNeg, Nat.reduceLeDiff, Nat.reduceBEq]
      exact r _ _ ⟨rfl, by simp [hx]⟩
  · have hli : ¬ ((l.length : Int) = (l'.length : Int)) := by omega
    simp only [wxs, ↓reduceIte, Nat.reduceEqDiff, Nat.reduceAdd, Nat.reduceLT, reduceCtorEq, Int.reduceLE, Int.reduceLT, Int.reduceEq, Int.reduceNeg, Nat.reduceLeDiff, Nat.reduceBEq, A16, hlen, hlen', hli]
    refine r _ _ ⟨rfl, ?_⟩
    have : l ≠ l' := fun e => hl (by rw [e])
    simp [this]

def swp (p : Nat × Nat) : Nat × Nat := (p.2, p.1)

theorem turned {h : AH} {v0 v1 : AV} (hb0 : Bytes h.size h v0) (hb1 : Bytes h.size h v1) : WF FT NT 3 [v0, v1] h fun r h' => r = .bool true ∧ Keeps h.size h h' := by
  refine WF.body' (A := A3) rfl rfl rfl fun R r => ?_
  simp only [wxs, ↓reduceIte, Nat.reduceEqDiff, Nat.reduceAdd, Nat.reduceLT, reduceCtorEq, Int.reduceLE, Int.reduceLT, Int.reduceEq, Int.reduceNeg, Nat.reduceLeDiff, Nat.reduceBEq, A3]
  refine (hb0.wound (Nat.le_refl _)).mono ?_
  rintro s h1 ⟨rfl, hs1, hsz1, hk1⟩
  simp only [wxs, ↓reduceIte, Nat.reduceEqDiff, Nat.reduceAdd, Nat.reduceLT, reduceCtorEq, Int.reduceLE, Int.reduceLT, Int.reduceEq, Int.reduceNeg, Nat.reduceLeDiff, Nat.reduceBEq]
  refine ((hb1.keep hk1).wound hk1.2.1).mono ?_
  rintro q h2 ⟨rfl, hq2, hsz2, hk2⟩
  have hs2 : Spool h.size h2 h.size 4000000000000000000 := hs1.keep (fun i hi => hk2.2.2 i (by omega)) (hk2.2.2 _ (by omega))
  rw [hsz1] at hq2 hsz2
  simp only [wxs, ↓reduceIte, Nat.reduceEqDiff, Nat.reduceAdd, Nat.reduceLT, reduceCtorEq, Int.reduceLE, Int.reduceLT, Int.reduceEq, Int.reduceNeg, Nat.reduceLeDiff, Nat.reduceBEq, hsz1]
  refine (c_from (k := 3000000000000000000) (hs2.less (by omega)) (lo := 1) (hi := 7) (by omega)).mono ?_
  rintro _ h3 ⟨⟨x, rfl, hx1, hx7⟩, hs3, hbut3⟩
  obtain ⟨n, rfl⟩ : ∃ n : Nat, x = (n : Int) := ⟨x.toNat, by omega⟩
  simp only [wxs, ↓reduceIte, Nat.reduceEqDiff, Nat.reduceAdd, Nat.reduceLT, reduceCtorEq, Int.reduceLE, Int.reduceLT, Int.reduceEq, Int.reduceNeg, Nat.reduceLeDiff, Nat.reduceBEq]
  have hsz3 := hbut3.1
  refine (c_order (k := 2000000000000000000) (by omega) (n := n) (by omega) (hs3.less (by omega))).mono ?_
  rintro ov h4 ⟨⟨l, hperm, hol⟩, hs4, hold4, hsz4⟩
  have hord := IsOrder.of_perm hperm
  have hln := hord.1
  have hn : 1 ≤ n ∧ n ≤ 7 := by omega
  have hov : Ints h4.size h4 ov l := hol.sl
  simp only [wxs, ↓reduceIte, Nat.reduceEqDiff, Nat.reduceAdd, Nat.reduceLT, reduceCtorEq, Int.reduceLE, Int.reduceLT, Int.reduceEq, Int.reduceNeg, Nat.reduceLeDiff, Nat.reduceBEq]
  refine (c_clone hov (Nat.le_refl _) (by omega)).mono ?_
  rintro bv h5 ⟨hk5, hob, _⟩
  simp only [wxs, ↓reduceIte, Nat.reduceEqDiff, Nat.reduceAdd, Nat.reduceLT, reduceCtorEq, Int.reduceLE, Int.reduceLT, Int.reduceEq, Int.reduceNeg, Nat.reduceLeDiff, Nat.reduceBEq]
  refine (c_reverse hob (by omega)).mono ?_
  rintro _ h6 ⟨hsz6, hold6, hob6⟩
  have hk6 : Keeps h4.size h4 h6 := ⟨Nat.le_refl _, by have := hk5.2.1; omega, fun i hi => by
    rw [hold6 i (fun e => by have := hob.sid_ge i e; omega), hk5.2.2 i hi]⟩
  have hbv6 : Ints h6.size h6 bv l.reverse := by rw [Ints, List.length_reverse]; exact hob6.sl
  simp only [wxs, ↓reduceIte, Nat.reduceEqDiff, Nat.reduceAdd, Nat.reduceLT, reduceCtorEq, Int.reduceLE, Int.reduceLT, Int.reduceEq, Int.reduceNeg, Nat.reduceLeDiff, Nat.reduceBEq]
  refine (c_Rise (hov.keep hk6) hk6.2.1 hn hord).mono ?_
  rintro _ h7 ⟨hk7, a, rfl, halen⟩
  simp only [wxs, ↓reduceIte, Nat.reduceEqDiff, Nat.reduceAdd, Nat.reduceLT, reduceCtorEq, Int.reduceLE, Int.reduceLT, Int.reduceEq, Int.reduceNeg, Nat.reduceLeDiff, Nat.reduceBEq]
  have hrevord : IsOrder l.reverse n := ⟨by simpa using hln, fun x hx => hord.2.1 x (List.mem_reverse.1 hx), (List.reverse_perm l).nodup_iff.2 hord.2.2⟩
  refine (c_Rise (hbv6.keep hk7) hk7.2.1 hn hrevord).mono ?_
  rintro _ h8 ⟨hk8, b, rfl, hblen⟩
  have hk78 : Keeps h4.size h4 h8 := (hk6.trans hk7 hk6.2.1).trans hk8 (Nat.le_trans hk6.2.1 hk7.2.1)
  have hov8 : Ints h8.size h8 ov l := (hov.keep hk78).up hk78.2.1
  have hovlen := fun g => hov8.len g
  have hne : l ≠ [] := by intro e; rw [e] at hln; simp at hln; omega
  have hlaw := rise_law l hne hord.2.2
  have hab : (riseS l).length ≤ 1000 ∧ (riseS l.reverse).length ≤ 1000 := by
    have h1 := riseS_len l hne
    have h2 := riseS_len l.reverse (by simpa using hne)
    have h3 := foldl_max_bound 1000 (risesS l) 0 (by omega) (by omega) (fun x hx => by have := risesS_bound l x hx; omega)
    have h4 := foldl_max_bound 1000 (risesS l.reverse) 0 (by omega) (by omega) (fun x hx => by have := risesS_bound l.reverse x hx; rw [List.length_reverse] at this; omega)
    omega
  obtain ⟨A, hA⟩ : ∃ A, A = (riseS l).length := ⟨_, rfl⟩
  obtain ⟨B, hB⟩ : ∃ B, B = (riseS l.reverse).length := ⟨_, rfl⟩
  rw [← hA] at halen; rw [← hB] at hblen; rw [← hA, ← hB] at hlaw hab
  have hmulb : A * B ≤ 1000 * 1000 := Nat.mul_le_mul hab.1 hab.2
  have hwadd : wrapA .i64 ((A : Int) + (B : Int)) = (A : Int) + (B : Int) := wr (by omega) (by omega)
  have hwmul : wrapA .i64 ((A : Int) * (B : Int)) = (A : Int) * (B : Int) := by rw [← Int.natCast_mul]; exact wr (by omega) (by omega)
  have hC : ¬ ((A : Int) * (B : Int) < (l.length : Int)) := by rw [← Int.natCast_mul]; omega
  have hu1 : ∀ x : Nat, (x : Int) < max 1 ((n : Int) - 1 + 1) → x < n := by intro x hx; omega
  by_cases h1 : (1 : Int) < (l.length : Int)
  case' pos =>
    have hAB : ¬ ((A : Int) + (B : Int) < 3) := by
      have := rise_law2 l (by omega) hord.2.2
      rw [← hA, ← hB] at this; omega
    simp only [wxs, ↓reduceIte, Nat.reduceEqDiff, Nat.reduceAdd, Nat.reduceLT, reduceCtorEq, Int.reduceLE, Int.reduceLT, Int.reduceEq, Int.reduceNeg, Nat.reduceLeDiff, Nat.reduceBEq, halen, hblen, hovlen, h1, hwadd, hAB, hwmul, hC]
  case' neg =>
    simp only [wxs, ↓reduceIte, Nat.reduceEqDiff, Nat.reduceAdd, Nat.reduceLT, reduceCtorEq, Int.reduceLE, Int.reduceLT, Int.reduceEq, Int.reduceNeg, Nat.reduceLeDiff, Nat.reduceBEq, halen, hblen, hovlen, h1, hwadd, hwmul, hC]
  all_goals
    have hq8 : Spool h.size h8 (h.size + 1) 4000000000000000000 := by
      have key : ∀ i, i < h.size + 2 → i ≠ h.size → h8.get i = h2.get i := fun i hi hne => by
        rw [hk78.2.2 i (by omega), hold4 i (by omega) hne, hbut3.2 i hne]
      exact hq2.keep (fun i hi => key i (by omega) (by omega)) (key _ (by omega) (by omega))
    have hw1 : wrapA .i64 ((l.length : Int) - 1) = (n : Int) - 1 := by rw [wr (by omega) (by omega)]; omega
    have hkh8 : ∀ i, i < h.size → h8.get i = h.get i := fun i hi => by
      rw [hk78.2.2 i (by omega), hold4 i (by omega) (by omega), hbut3.2 i (by omega), hk2.2.2 i (by omega), hk1.2.2 i hi]
    have hsz8 : h.size + 2 ≤ h8.size := by have := hk78.2.1; omega
    have hovsid : ∀ j, ov.sid = some j → h3.size ≤ j := fun j hj => hol.sid_ge j hj
    refine (c_upto (k := 3000000000000000000) (hq8.less (by omega)) (n := 9) (by omega)).mono ?_
    rintro _ h9 ⟨⟨cnt, rfl, hcnt⟩, hq9, hbut9⟩
    have hcnt9 : cnt < 10 := by omega
    simp only [wxs, ↓reduceIte, Nat.reduceEqDiff, Nat.reduceAdd, Nat.reduceLT, reduceCtorEq, Int.reduceLE, Int.reduceLT, Int.reduceEq, Int.reduceNeg, Nat.reduceLeDiff, Nat.reduceBEq]
    refine WS.range (cnt := 70) (lim := 69) (S := List (Nat × Nat) × AV × AV) cnt (fun i s => [(6, .ptr (some (h.size + 1, 0))), (7, ov), (13, s.2.1), (14, s.2.2)])
      (fun i s h' => s.1.length = i ∧ (∀ p ∈ s.1, p.1 < n ∧ p.2 < n) ∧ Own h8.size h' 2 s.2.1 s.1.length (s.1.flatMap fun p : Nat × Nat => [I p.1, I p.2]) ∧ Own h8.size h' 2 s.2.2 s.1.length ((s.1.map swp).reverse.flatMap fun p : Nat × Nat => [I p.1, I p.2]) ∧
        (∀ id c sp, OwnAt h8.size h' 2 s.2.2 s.1.length ((s.1.map swp).reverse.flatMap fun p : Nat × Nat => [I p.1, I p.2]) id c sp → c = .open 2) ∧ (∀ j, s.2.1.sid = some j → s.2.2.sid ≠ some j) ∧
        Spool h.size h' (h.size + 1) (2000000000000000000 + (100 - 2 * i)) ∧ (∀ j, j < h8.size → j ≠ h.size + 1 → h'.get j = h8.get j) ∧ h8.size ≤ h'.size)
      (fun a h' => ∃ (ms : List (Nat × Nat)) (tv av : AV), Env a [(7, ov), (13, tv), (14, av)] ∧ ms.length ≤ 10 ∧ (∀ p ∈ ms, p.1 < n ∧ p.2 < n) ∧ Own h8.size h' 2 tv ms.length (ms.flatMap fun p : Nat × Nat => [I p.1, I p.2]) ∧ Own h8.size h' 2 av ms.length ((ms.map swp).reverse.flatMap fun p : Nat × Nat => [I p.1, I p.2]) ∧
        (∀ j, j < h8.size → j ≠ h.size + 1 → h'.get j = h8.get j) ∧ h8.size ≤ h'.size)
      ([], .slice none 0 (.known 0), .slice none 0 (.known 0)) (by decide) (by omega) (fun _ _ => rfl) (by simp only [wxs, ↓reduceIte, Nat.reduceEqDiff, Nat.reduceAdd, Nat.reduceLT, reduceCtorEq, Int.reduceLE, Int.reduceLT, Int.reduceEq, Int.reduceNeg, Nat.reduceLeDiff, Nat.reduceBEq]) (by simp only [wxs, ↓reduceIte, Nat.reduceEqDiff, Nat.reduceAdd, Nat.reduceLT, reduceCtorEq, Int.reduceLE, Int.reduceLT, Int.reduceEq, Int.reduceNeg, Nat.reduceLeDiff, Nat.reduceBEq]) (by simp only [wxs, ↓reduceIte, Nat.reduceEqDiff, Nat.reduceAdd, Nat.reduceLT, reduceCtorEq, Int.reduceLE, Int.reduceLT, Int.reduceEq, Int.reduceNeg, Nat.reduceLeDiff, Nat.reduceBEq]) ?_ ?_ ?_ ?_
    · refine ⟨rfl, by simp, Own.nil _ _ _, Own.nil _ _ _, ?_, ?_, hq9.less (by omega), fun j hj hne => hbut9.2 j hne, by have := hbut9.1; omega⟩
      · rintro id c sp ⟨e, _⟩; cases e
      · intro j e; cases e
    · rintro Q i ⟨ms, tv, av⟩ a h' hi qn qc qx qj hc hl he ⟨hml, hmm, hot, hoa, hopen, hdis, hq, hold, hle⟩
      simp only [env_cons, env_nil, and_true] at he hml hmm hot hoa hopen hdis
      obtain ⟨e6, e7, e13, e14⟩ := he
      simp only [wxs, ↓reduceIte, Nat.reduceEqDiff, Nat.reduceAdd, Nat.reduceLT, reduceCtorEq, Int.reduceLE, Int.reduceLT, Int.reduceEq, Int.reduceNeg, Nat.reduceLeDiff, Nat.reduceBEq, A3L0, e6, e7, e13, e14, hovlen, hw1]
      refine (c_upto (k := 2000000000000000000 + (100 - 2 * i) - 1) (hq.less (by omega)) (by omega)).mono ?_
      rintro _ ha ⟨⟨x1, rfl, hx1'⟩, hqa, hbuta⟩
      have hx1n := hu1 x1 hx1'
      simp only [wxs, ↓reduceIte, Nat.reduceEqDiff, Nat.reduceAdd, Nat.reduceLT, reduceCtorEq, Int.reduceLE, Int.reduceLT, Int.reduceEq, Int.reduceNeg, Nat.reduceLeDiff, Nat.reduceBEq, e6, e7, e13, e14, hovlen, hw1]
      refine (c_upto (k := 2000000000000000000 + (100 - 2 * (i + 1))) (hqa.less (by omega)) (by omega)).mono ?_
      rintro _ hb ⟨⟨x2, rfl, hx2'⟩, hqb, hbutb⟩
      have hx2n := hu1 x2 hx2'
      have hszb : hb.size = h'.size := by have := hbuta.1; have := hbutb.1; omega
      have holdb : ∀ j, j ≠ h.size + 1 → hb.get j = h'.get j := fun j hj => by rw [hbutb.2 j hj, hbuta.2 j hj]
      obtain ⟨hd, hhd⟩ : ∃ hd, hd = (((hb.push (.cells [I 0, I 0])).set hb.size (.cells [I x1, I x2])).push (.cells [I x1, I x2])).push (.cells [I x2, I x1]) := ⟨_, rfl⟩
      have hszd : hd.size = hb.size + 3 := by rw [hhd]; rfl
      have getd : ∀ j, j < hb.size → hd.get j = hb.get j := fun j hj => by
        rw [hhd, AH.get_push, if_neg (by simp only [AH.size_push, AH.size_put]; omega), AH.get_push, if_neg (by simp only [AH.size_push, AH.size_put]; omega), AH.get_put, if_neg (by omega), at_push_old _ hj]
      have getd0 : hd.get hb.size = some (.cells [I x1, I x2]) := by
        rw [hhd, AH.get_push, if_neg (by simp only [AH.size_push, AH.size_put]; omega), AH.get_push, if_neg (by simp only [AH.size_push, AH.size_put]; omega), AH.get_put, if_pos rfl]
      have getd1 : hd.get (hb.size + 1) = some (.cells [I x1, I x2]) := by
        rw [hhd, AH.get_push, if_neg (by simp only [AH.size_push, AH.size_put]; omega), AH.get_push, if_pos (by simp only [AH.size_push, AH.size_put])]
      have getd2 : hd.get (hb.size + 1 + 1) = some (.cells [I x2, I x1]) := by
        rw [hhd, AH.get_push, if_pos (by simp only [AH.size_push, AH.size_put])]
      have hot_b : Own h8.size hd 2 tv ms.length (ms.flatMap fun p : Nat × Nat => [I p.1, I p.2]) := hot.of_same (by omega) fun j hj hs => by
        rw [getd j (by omega), holdb j (by have := hot.sid_ge j hs; omega)]
      have hoa_b : Own h8.size hd 2 av ms.length ((ms.map swp).reverse.flatMap fun p : Nat × Nat => [I p.1, I p.2]) := hoa.of_same (by omega) fun j hj hs => by
        rw [getd j (by omega), holdb j (by have := hoa.sid_ge j hs; omega)]
      have hel1 : elemsA hd 2 (.slice (some (hb.size + 1, 0)) 1 (.known 1)) = some (1, [I x1, I x2]) := by
        simp only [elemsA, elemsAt, cellsAt, getd1]; rfl
      obtain ⟨tv', he', happ, hot', hsze, holde, hsidt⟩ := hot_b.app (b := 16) (by omega) (Nat.succ_pos 1) hel1 rfl (by simp only [wxs, ↓reduceIte, Nat.reduceEqDiff, Nat.reduceAdd, Nat.reduceLT, reduceCtorEq, Int.reduceLE, Int.reduceLT, Int.reduceEq, Int.reduceNeg, Nat.reduceLeDiff, Nat.reduceBEq]) (by simp only [maxRoom]; omega)
      have hc0 : cellsAt he' hb.size = some [I x1, I x2] := by
        rw [cellsAt_congr (holde _ (by omega) (fun e => by have := hot.sid_lt _ e; omega))]; exact cells_of getd0
      have hoa_e : Own h8.size he' 2 av ms.length ((ms.map swp).reverse.flatMap fun p : Nat × Nat => [I p.1, I p.2]) := hoa_b.of_same hsze fun j hj hs => holde j hj fun e => hdis j e hs
      have hopen_e : ∀ id c sp, OwnAt h8.size he' 2 av ms.length ((ms.map swp).reverse.flatMap fun p : Nat × Nat => [I p.1, I p.2]) id c sp → c = .open 2 := by
        intro id c sp ho
        obtain ⟨e1, _⟩ := ho
        rcases hoa.2 with ⟨rfl, _⟩ | ⟨id2, c2, sp2, h2⟩
        · cases e1
        · have := hopen id2 c2 sp2 h2
          have e2 := h2.1
          rw [e1] at e2
          simp only [AV.slice.injEq] at e2
          rw [e2.2.2]; exact this
      have hge2 : he'.get (hb.size + 1 + 1) = some (.cells [I x2, I x1]) := by
        rw [holde _ (by omega) (fun e => by have := hot.sid_lt _ e; omega)]; exact getd2
      have hel2 : elemsA he' 2 (.slice (some (hb.size + 1 + 1, 0)) 1 (.known 1)) = some (1, [I x2, I x1]) := by
        simp only [elemsA, elemsAt, cells_of hge2]; rfl
      have hall2 : ∀ l : List (Nat × Nat), (l.flatMap fun p : Nat × Nat => [I p.1, I p.2]).all AV.one = true := by
        intro l; rw [List.all_eq_true]; intro x hx
        obtain ⟨p, _, hp⟩ := List.mem_flatMap.1 hx
        rcases List.mem_cons.1 hp with rfl | hp
        · rfl
        · rw [List.mem_singleton.1 hp]; rfl
      obtain ⟨av', hf, hins, ⟨id3, hat3⟩, hszf, holdf, hsida⟩ := insA_own (es := 2) hoa_e (by omega) hopen_e hel2 rfl (Nat.lt_succ_self 0) (i := 0) (Nat.zero_le _) (by simp only [maxRoom]; omega) rfl (hall2 _) (by rw [wcells_of hge2]; rfl) (fun e => by have := hoa.sid_lt _ e; omega)
      have hhd' := hhd.symm
      simp only [wxs, ↓reduceIte, Nat.reduceEqDiff, Nat.reduceAdd, Nat.reduceLT, reduceCtorEq, Int.reduceLE, Int.reduceLT, Int.reduceEq, Int.reduceNeg, Nat.reduceLeDiff, Nat.reduceBEq, wms, e6, e7, e13, e14, hhd', happ, hc0]
      refine WF.native (g := insA 2) rfl hins ?_
      simp only [wxs, ↓reduceIte, Nat.reduceEqDiff, Nat.reduceAdd, Nat.reduceLT, reduceCtorEq, Int.reduceLE, Int.reduceLT, Int.reduceEq, Int.reduceNeg, Nat.reduceLeDiff, Nat.reduceBEq]
      refine qn (ms ++ [(x1, x2)], tv', av') _ _ (by simp only [wxs, ↓reduceIte, Nat.reduceEqDiff, Nat.reduceAdd, Nat.reduceLT, reduceCtorEq, Int.reduceLE, Int.reduceLT, Int.reduceEq, Int.reduceNeg, Nat.reduceLeDiff, Nat.reduceBEq, hc]) (by simp only [wxs, ↓reduceIte, Nat.reduceEqDiff, Nat.reduceAdd, Nat.reduceLT, reduceCtorEq, Int.reduceLE, Int.reduceLT, Int.reduceEq, Int.reduceNeg, Nat.reduceLeDiff, Nat.reduceBEq, hl]) (by simp only [wxs, ↓reduceIte, Nat.reduceEqDiff, Nat.reduceAdd, Nat.reduceLT, reduceCtorEq, Int.reduceLE, Int.reduceLT, Int.reduceEq, Int.reduceNeg, Nat.reduceLeDiff, Nat.reduceBEq, e6, e7]) ⟨by simp [hml], ?_, ?_, ?_, ?_, ?_, ?_, ?_, ?_⟩
      · intro p hp
        rcases List.mem_append.1 hp with hp | hp
        · exact hmm p hp
        · rw [List.mem_singleton.1 hp]; exact ⟨hx1n, hx2n⟩
      · have := hot'.of_same hszf fun j hj hs => holdf j hj fun e => ?_
        · simpa using this
        · rcases hsidt j hs with h1 | h1
          · exact hdis j h1 e
          · have := hoa.sid_lt j e; omega
      · refine ⟨by have := hoa.1; simp at this ⊢; omega, .inr ⟨id3, .open 2, [], ?_⟩⟩
        simpa [swp] using hat3
      · rintro id c sp ho
        have e1 := ho.1
        rw [hat3.1] at e1
        simp only [AV.slice.injEq] at e1
        exact e1.2.2.symm
      · intro j hs e
        have h1 := hsida j e
        have h2 := hot'.sid_lt j hs
        omega
      · have hms := hqb.1
        have key : ∀ j, j < h8.size → hf.get j = hb.get j := fun j hj => by
          rw [holdf j (by omega) (fun e => by have := hoa.sid_ge j e; omega), holde j (by omega) (fun e => by have := hot.sid_ge j e; omega), getd j (by omega)]
        exact hqb.keep (fun j hj => key j (by omega)) (key _ (by omega))
      · intro j hj hne
        rw [holdf j (by omega) (fun e => by have := hoa.sid_ge j e; omega), holde j (by omega) (fun e => by have := hot.sid_ge j e; omega), getd j (by omega), holdb j hne, hold j hj hne]
      · omega
    · rintro ⟨ms, tv, av⟩ a h' he ⟨hml, hmm, hot, hoa, hopen, hdis, hq, hold, hle⟩
      simp only [env_cons, env_nil, and_true] at he hml hmm hot hoa
      exact ⟨ms, tv, av, by simp only [wxs, ↓reduceIte, Nat.reduceEqDiff, Nat.reduceAdd, Nat.reduceLT, reduceCtorEq, Int.reduceLE, Int.reduceLT, Int.reduceEq, Int.reduceNeg, Nat.reduceLeDiff, Nat.reduceBEq, he.2.1, he.2.2.1, he.2.2.2], by omega, hmm, hot, hoa, hold, hle⟩
    · rintro a h' ⟨ms, tv, av, he, hml, hmm, hot, hoa, hold, hle⟩
      simp only [env_cons, env_nil, and_true] at he
      obtain ⟨e7, e13, e14⟩ := he
      obtain ⟨wv, hg, happ, how, hszg, holdg, _⟩ := hot.app (b := 16) (w := av) (by omega) (Nat.succ_pos 1) hoa.sl.elems hoa.1 (by
        rw [List.all_eq_true]; intro x hx
        obtain ⟨p, _, hp⟩ := List.mem_flatMap.1 hx
        rcases List.mem_cons.1 hp with rfl | hp
        · rfl
        · rw [List.mem_singleton.1 hp]; rfl) (by simp only [maxRoom]; omega)
      have hovsid8 : ∀ j, ov.sid = some j → h.size + 2 ≤ j := fun j hj => by have := hovsid j hj; omega
      have hovh : Ints h8.size h' ov l := hov8.of_same fun j hj => ⟨hold j (hov8.sid_lt j hj) (by have := hovsid8 j hj; omega), hov8.sid_lt j hj⟩
      have hovg : Ints h8.size hg ov l := hovh.of_same fun j hj => by
        have h1 := hov8.sid_lt j hj
        exact ⟨holdg j (by omega) (fun e => by have := hot.sid_ge j e; omega), h1⟩
      have hmoves : Moves hg.size hg wv (ms ++ (ms.map swp).reverse) := by
        have := how.sl
        rw [Moves, Recs, List.flatMap_append, List.length_append, List.length_reverse, List.length_map]; exact this
      simp only [wxs, ↓reduceIte, Nat.reduceEqDiff, Nat.reduceAdd, Nat.reduceLT, reduceCtorEq, Int.reduceLE, Int.reduceLT, Int.reduceEq, Int.reduceNeg, Nat.reduceLeDiff, Nat.reduceBEq, e7, e13, e14, happ]
      refine (c_make (hovg.up (by omega)) hmoves (Nat.le_refl _) hn hord ?_ (by simp; omega)).mono ?_
      · intro p hp
        rcases List.mem_append.1 hp with hp | hp
        · exact hmm p hp
        · rw [List.mem_reverse, List.mem_map] at hp
          obtain ⟨p', hp', rfl⟩ := hp
          have := hmm p' hp'
          exact ⟨this.2, this.1⟩
      rintro _ hm ⟨hkm, u, rfl, hu, hul⟩
      have hmb : makeS l (ms ++ (ms.map swp).reverse) = l := makeS_back n ms l hln hmm
      rw [hmb] at hu
      simp only [wxs, ↓reduceIte, Nat.reduceEqDiff, Nat.reduceAdd, Nat.reduceLT, reduceCtorEq, Int.reduceLE, Int.reduceLT, Int.reduceEq, Int.reduceNeg, Nat.reduceLeDiff, Nat.reduceBEq, e7]
      refine (c_equal hu ((hovg.up (by omega)).keep hkm) (by omega)).mono ?_
      rintro _ hm' ⟨rfl, rfl⟩
      simp only [wxs, ↓reduceIte, Nat.reduceEqDiff, Nat.reduceAdd, Nat.reduceLT, reduceCtorEq, Int.reduceLE, Int.reduceLT, Int.reduceEq, Int.reduceNeg, Nat.reduceLeDiff, Nat.reduceBEq]
      refine WF.native (g := fun l h => match l with | [] => some (.bool true, h) | _ => none) rfl rfl ?_
      simp only [wxs, ↓reduceIte, Nat.reduceEqDiff, Nat.reduceAdd, Nat.reduceLT, reduceCtorEq, Int.reduceLE, Int.reduceLT, Int.reduceEq, Int.reduceNeg, Nat.reduceLeDiff, Nat.reduceBEq]
      refine r _ _ ⟨rfl, Nat.le_refl _, by have := hkm.2.1; omega, fun j hj => ?_⟩
      rw [hkm.2.2 j (by omega), holdg j (by omega) (fun e => by have := hot.sid_ge j e; omega), hold j (by omega) (by omega), hkh8 j hj]
end AL
set_option linter.unusedVariables false
set_option linter.unusedSimpArgs false
namespace AL
open Go
def NT0 : NatT := fun k => if k = 14 then some (insA 2) else if k = 57 then some (insA 1) else none
theorem NT0_ok : NT_ok Go.Proofs.Try.prog NT0 := by
  intro f g h
  unfold NT0 at h
  split at h
  · rename_i e; cases h; subst e; exact nat_ins2
  · split at h
    · rename_i e; cases h; subst e; exact nat_ins1
    · cases h
def isTrue : Option (AV × AH) → Bool
  | some (.bool true, _) => true
  | _ => false
theorem isTrue_some {x : Option (AV × AH)} (h : isTrue x = true) : ∃ h0, x = some (.bool true, h0) := by
  unfold isTrue at h
  split at h
  · exact ⟨_, rfl⟩
  · cases h
set_option maxRecDepth 100000 in
theorem awake_true : isTrue (evF FT NT0 1000 17 [] AH.empty) = true := by decide +kernel
theorem NT_good : NT_ok Go.Proofs.Try.prog NT := by
  intro f g h
  unfold NT at h
  split at h
  · rename_i e; cases h; subst e; exact nat_ins2
  · split at h
    · rename_i e; cases h; subst e; exact nat_ins1
    · split at h
      · rename_i e; cases h; subst e
        obtain ⟨h0, he⟩ := isTrue_some awake_true
        exact closed_nat FT_good NT0_ok rfl he
      · cases h
end AL
set_option linter.unusedVariables false
set_option linter.unusedSimpArgs false
namespace Go.Proofs.Ytahmjlopifdeaaa
open Go.ChangeShapes Go.WideShapes Go.ChangeAt Go.RowKit
open AL

theorem own : ownKnob Try.prog.godebug = none := by kernel_rfl
theorem cells5 : Try.prog.cellsOf 5 = 1 := by kernel_rfl

set_option maxRecDepth 100000 in
theorem turned_lifted (os : Os) (started : os.Started) (H : Type) (enc : TypeId × Value → H) :
    ReturnsInHanded {} Try.checked os 3 .any (Rows.laceTurnedSpec.pre6 enc Try.prog Try.f3 Rows.laceTurnedRow.domain false) (Rows.laceTurnedSpec.post enc Try.prog Try.f3 false true false false) := by
  refine returnsInHanded_of_change (C := Try.checked) own started (by kernel_rfl) Try.func3
    (ChangeSpec.witness6 (enc := enc) (C := Try.checked) false ⟨#[], #[.slice none 0 0, .slice none 0 0], []⟩ 8 (by kernel_rfl) (by kernel_rfl) (by kernel_rfl) (by kernel_rfl)) ?_
  intro W base args ds gs before hval0 hW _ _
  have hval : ∀ (j : Nat) t v, Try.f3.params[j]? = some t → args[j]? = some v → Value.okWide Try.prog W .any base t v := hval0
  have hW' := hW
  obtain ⟨p, q, hA0, hV, rfl, _, _⟩ := hW
  have hA : DataW.TrodAll enc Try.prog W 0 (fun _ => true) true Try.f3.params.toList args.toList ds p := hA0
  rw [Try.params3] at hA hval
  obtain ⟨v0, v1, d0, d1, p0, p1, rfl, rfl, rfl, h0, h1⟩ := trodAll_two hA
  obtain ⟨rfl, rfl⟩ := trodVars_none hV
  obtain ⟨hb0, k0⟩ := open_bytes Try.underlying22 Try.underlying5 cells5 (hval 0 22 v0 rfl rfl) h0
  obtain ⟨hb1, k1⟩ := open_bytes Try.underlying22 Try.underlying5 cells5 (hval 1 22 v1 rfl rfl) h1
  refine (law2 FT_good NT_good hb0 hb1 [] (f := 3) fun h x y hx hy => turned hx hy).mono fun e W' ⟨he, hk⟩ => ?_
  subst he
  obtain ⟨q0, t0⟩ := k0 W' hk
  obtain ⟨q1, t1⟩ := k1 W' hk
  refine ⟨_, rfl, _, _, _, [], q0 ++ (q1 ++ []), [], hW', ?_, ?_, rfl, World.keptBut_mono (fun _ h => h.elim) hk, fun h => by cases h⟩
  · exact trodAll_cons_mk (shut_bool Try.underlying4 _) trodAll_mk0
  · exact trodAll_cons_mk t0 (trodAll_cons_mk t1 trodAll_mk0)

theorem lace_turned : Rows.LaceTurnedSaid :=
  OpenClaim.holds_of_wide 3 Try.f3 rfl rfl rfl rfl rfl rfl rfl ⟨rfl, rfl, rfl, rfl, rfl⟩ rfl rfl rfl rfl rfl (by kernel_rfl) Try.func3 (by kernel_rfl)
    (of_decide_eq_true (by kernel_rfl)) (by unfold Func.isWrapper; first | (rw [if_pos (by decide +kernel)]; kernel_rfl) | (rw [if_neg (by decide +kernel)]; exact ⟨rfl, rfl⟩))
    (fun os started H enc _ => turned_lifted os started H enc)
end Go.Proofs.Ytahmjlopifdeaaa
