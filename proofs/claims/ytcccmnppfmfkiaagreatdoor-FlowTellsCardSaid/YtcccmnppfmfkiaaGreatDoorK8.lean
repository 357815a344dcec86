/-
  Part 8 of what the proofs of this seat share: the executor, data in memory, walks.
-/
import Derived.Test.YtcccmnppfmfkiaaGreatDoorK7
import Derived.Test.YtcccmnppfmfkiaaGreatDoorK5
import Derived.Test.YtcccmnppfmfkiaaGreatDoorK6
import Derived.Test.YtcccmnppfmfkiaaGreatDoorK3

/-
  Walk: bonsairef09.May.
-/
set_option linter.unusedVariables false
set_option linter.unusedSimpArgs false
namespace Go.V
open Go Go.Proofs

/-- How large a grammar may be, for the walks. -/
structure GFit (g : Gr) : Prop where
  n : g.n ≤ 1000000
  ds : ∀ d ∈ g.ds, Fit d.t 1000000
theorem okDefs_cons (d : Df) (ds : List Df) : okDefs (d :: ds) = ((mayName d.name && normal d.t) && okDefs ds) := rfl
theorem large_of {deb : List Int} {g : Gr} (h : (decide (1024 < nodesG g) || !g.ds.all fun d => mayTree d.t) = true) : largeG deb g = true := by
  unfold largeG
  generalize (g.ds.all fun d => mayTree d.t) = a at *
  generalize decide (1024 < nodesG g) = c at *
  cases a <;> cases c <;> simp at h ⊢
theorem firstOf_lt {ds : List Df} {i : Nat} (h : i < ds.length) : firstOf ds i = decide (findAt ds[i].name ds 0 = i) := by
  unfold firstOf
  rw [List.getElem?_eq_getElem h]
theorem all_drop_lt {n i : Nat} (p : Nat → Bool) (h : i < n) : ((List.range n).drop i).all p = (p i && ((List.range n).drop (i + 1)).all p) := by
  rw [List.drop_eq_getElem_cons (by simpa using h), List.all_cons]
  simp
theorem small_gram {deb : List Int} {ds : List Df} (h : ∀ d ∈ ds, d.t.ns.length ≤ 1024) (hn : ds.length ≤ 64) : (gramB deb ds []).length ≤ 160000000 := by
  have := gramB_len deb ds [] 0 h (by simp)
  omega

set_option maxRecDepth 100000 in
set_option maxHeartbeats 4000000 in
theorem RMay9_spec {I : GH} {deb : List Int} (hcl : ClsOk deb) {g : Gr} (hg : g.ok I) (hf : GFit g) : Spec Tryz.prog 53 [g.val] I [] (fun v I' M' => v = .int .i64 (mayR deb g) ∧ I' = I ∧ M' = []) := by
  refine spec_of_V [] TryzEOK Tryz.func53 rfl rfl rfl ?_
  intro B h0
  have hgn := hg.n
  have hfn := hf.n
  refine CondOb.mk (fun e0 => ?_) (fun e0 => ?_)
  · exact ⟨_, _, .refl, by rw [mayR, e0]; rfl, rfl, rfl⟩
  -- names and bodies
  refine LoopOb.inv (ι := Nat) (fun i => { fl := [(1, .ref 1 0), (3, .val (.int .i64 i))], cl := [(1, [.slice g.a g.n g.c])], gi := I }) (fun i => i ≤ g.n ∧ okDefs g.ds = okDefs (g.ds.drop i)) (fun i => g.n - i) ?_ ?_
  · exact ⟨0, ⟨Nat.zero_le _, rfl⟩, .refl, .cons .refl (.cons .refl .nil), .cons rfl .nil⟩
  rintro i ⟨hi, hok⟩
  refine CondOb.mk (fun h => ?_) (fun h => ?_)
  · have hlt : i < g.n := by simpa using h
    have hlt' : i < g.ds.length := by omega
    obtain ⟨ad, had, hrd⟩ := hg.rs.row Df.cells_len hlt hlt'
    have hdm : g.ds[i] ∈ g.ds := List.getElem_mem hlt'
    have hdrop : g.ds.drop i = g.ds[i] :: g.ds.drop (i + 1) := List.drop_eq_getElem_cons hlt'
    rw [hdrop, okDefs_cons] at hok
    refine IdxOb.mk ad i had rfl hlt ?_
    refine LoadOb.mk _ (Rd.part (k := 0) (m := 1) (hrd _) (by decide)) ?_
    refine CallOb.mk [] [] _ (.refl _) (RMay_spec I g.ds[i].name) ?_
    rintro v J N - ⟨rfl, hJ, rfl⟩
    subst J
    refine GuardOb.mk (fun h1 => ?_) (fun h1 => ?_)
    · have hm : mayName g.ds[i].name = true := by simpa using h1
      refine IdxOb.mk ad i had rfl hlt ?_
      refine LoadOb.mk _ (Rd.part (k := 1) (m := 2) (hrd _) (by decide)) ?_
      refine CallOb.mk [] [] _ (.refl _) (RNormal_spec (hg.ds _ hdm).t (hf.ds _ hdm)) ?_
      rintro v J N - ⟨rfl, hJ, rfl⟩
      subst J
      refine CondOb.mk (fun h2 => ?_) (fun h2 => ?_)
      · have hno : normal g.ds[i].t = false := by simpa using h2
        exact ⟨_, _, .refl, by rw [mayR, e0, hok, hno, Bool.and_false]; rfl, rfl, rfl⟩
      · have hno : normal g.ds[i].t = true := by simpa using h2
        refine ArithOb.mk _ (next_wr (i := i) (by omega)) ?_
        refine ⟨i + 1, ⟨⟨by omega, ?_⟩, by omega⟩, .refl, .cons .refl (.cons .refl .nil), .cons rfl .nil⟩
        rw [hok, hm, hno]
        rfl
    · have hm : mayName g.ds[i].name = false := by simpa using h1
      exact ⟨_, _, .refl, by rw [mayR, e0, hok, hm, Bool.false_and, Bool.false_and]; rfl, rfl, rfl⟩
  have hie : i = g.n := by simp at h; omega
  have hokt : okDefs g.ds = true := by
    rw [hok, List.drop_of_length_le (by omega)]
    rfl
  -- how large
  have hmr : mayR deb g = bif largeG deb g then 40 else bif !(List.range g.ds.length).all (firstOf g.ds) then 6 else bif g.ds.all fun d => d.t.ns.all (nodeOk2 g.ds) then 0 else 41 := by
    rw [mayR, e0, hokt]
    rfl
  have pos : 0 < g.n := by simp at e0; omega
  refine GuardOb.mk (fun h1 => ?_) (fun h1 => ?_)
  · have hn64 : g.n ≤ 64 := by simp at h1; omega
    refine CallOb.mk [] [] _ (.refl _) (RNodes_spec hg hf.ds hfn) ?_
    rintro v J N - ⟨rfl, hJ, rfl⟩
    subst J
    refine LoopOb.inv (ι := Nat × Bool) (fun x => { fl := [(1, .ref 1 0), (4, .val (.bool x.2)), (5, .val (.int .i64 x.1))], cl := [(1, [.slice g.a g.n g.c])], gi := I })
      (fun x => x.1 ≤ g.n ∧ (decide (1024 < nodesG g) || !g.ds.all fun d => mayTree d.t) = (x.2 || !(g.ds.drop x.1).all fun d => mayTree d.t)) (fun x => g.n - x.1) ?_ ?_
    · exact ⟨(0, decide (((1024 : Nat) : Int) < (nodesG g : Nat))), ⟨Nat.zero_le _, by simp only [List.drop_zero]; congr 1; exact decide_eq_decide.2 (by omega)⟩, .refl, .cons .refl (.cons .refl (.cons .refl .nil)), .cons rfl .nil⟩
    rintro ⟨k, b⟩ ⟨hk, hb⟩
    simp only at hk hb
    refine GuardOb.mk (fun k1 => ?_) (fun k1 => ?_)
    · have hkl : k < g.n := by simpa using k1
      have hkl' : k < g.ds.length := by omega
      refine CondOb.mk (fun k2 => ?_) (fun k2 => ?_)
      · have hbf : b = false := by simpa using k2
        obtain ⟨ad, had, hrd⟩ := hg.rs.row Df.cells_len hkl hkl'
        have hdm : g.ds[k] ∈ g.ds := List.getElem_mem hkl'
        have hdrop : g.ds.drop k = g.ds[k] :: g.ds.drop (k + 1) := List.drop_eq_getElem_cons hkl'
        refine IdxOb.mk ad k had rfl hkl ?_
        refine LoadOb.mk _ (Rd.part (k := 1) (m := 2) (hrd _) (by decide)) ?_
        refine CallOb.mk [] [] _ (.refl _) (RTMay_spec (hg.ds _ hdm).t (hf.ds _ hdm)) ?_
        rintro v J N - ⟨rfl, hJ, rfl⟩
        subst J
        refine ArithOb.mk _ (next_wr (i := k) (by omega)) ?_
        refine ⟨(k + 1, !mayTree g.ds[k].t), ⟨⟨by simp only; omega, ?_⟩, by simp only; omega⟩, .refl, .cons .refl (.cons .refl (.cons .refl .nil)), .cons rfl .nil⟩
        simp only
        rw [hb, hdrop, List.all_cons, hbf, Bool.false_or, Bool.not_and]
      · have hbt : b = true := by simpa using k2
        have hP : (decide (1024 < nodesG g) || !g.ds.all fun d => mayTree d.t) = b := by rw [hb, hbt, Bool.true_or]
        refine GuardOb.mk (fun k3 => ?_) (fun k3 => ?_)
        · have hbf : b = false := by simpa using k3
          rw [hbf, Bool.or_eq_false_iff, Bool.not_eq_false', List.all_eq_true] at hP
          have hall : ∀ d ∈ g.ds, Fit d.t 1000000 ∧ d.t.n ≤ 1024 := fun d hd => by
            have := hP.2 d hd
            unfold mayTree at this
            simp only [Bool.and_eq_true, decide_eq_true_eq] at this
            exact ⟨hf.ds d hd, this.1⟩
          have hgl := small_gram (deb := deb) (ds := g.ds) (fun d hd => by rw [(hg.ds d hd).t.n]; exact (hall d hd).2) (by omega)
          refine CallOb.mk [] [] _ (.refl _) (RGrammar_spec hcl hg hn64 hall (by decide)) ?_
          rintro v J N - ⟨rfl, hJ, rfl⟩
          subst J
          have hlg : largeG deb g = decide (8192 < (gramB deb g.ds []).length) := by
            have e1 : decide (64 < g.n) = false := decide_eq_false (by omega)
            have e2 : (g.ds.all fun d => mayTree d.t) = true := List.all_eq_true.2 hP.2
            rw [largeG, e1, e2, hP.1]
            rfl
          have hsz : ((strOf (gramB deb g.ds [])).size : Int) = ((gramB deb g.ds []).length : Int) := rfl
          refine CondOb.mk (fun k4 => ?_) (fun k4 => ?_)
          · have : largeG deb g = true := by
              rw [hlg]
              rw [hsz] at k4
              simp at k4 ⊢
              omega
            exact ⟨_, _, .refl, by rw [hmr, this]; rfl, rfl, rfl⟩
          have hlf : largeG deb g = false := by
            rw [hlg]
            rw [hsz] at k4
            simp at k4 ⊢
            omega
          rw [hlf, cond_false] at hmr
          -- names
          refine LoopOb.inv (ι := Nat) (fun i => { fl := [(1, .ref 1 0), (6, .val (.int .i64 i))], cl := [(1, [.slice g.a g.n g.c])], gi := I }) (fun i => i ≤ g.n ∧ (List.range g.ds.length).all (firstOf g.ds) = ((List.range g.ds.length).drop i).all (firstOf g.ds)) (fun i => g.n - i) ?_ ?_
          · exact ⟨0, ⟨Nat.zero_le _, rfl⟩, .refl, .cons .refl (.cons .refl .nil), .cons rfl .nil⟩
          rintro u ⟨hu, hfo⟩
          refine CondOb.mk (fun h => ?_) (fun h => ?_)
          · have hlt : u < g.n := by simpa using h
            have hlt' : u < g.ds.length := by omega
            obtain ⟨ad, had, hrd⟩ := hg.rs.row Df.cells_len hlt hlt'
            rw [all_drop_lt _ hlt', firstOf_lt hlt'] at hfo
            refine CodeOb.draw TryzEOK rfl rfl rfl ?_
            refine IdxOb.mk ad u had rfl hlt ?_
            refine LoadOb.mk _ (Rd.part (k := 0) (m := 1) (hrd _) (by decide)) ?_
            refine PCallOb.mk _ (RFind_spec hg g.ds[u].name) ?_
            rintro v J N - ⟨rfl, hJ, rfl⟩
            subst J
            refine CondOb.mk (fun h2 => ?_) (fun h2 => ?_)
            · have e : decide (findAt g.ds[u].name g.ds 0 = (u : Int)) = false := by simpa using h2
              exact ⟨_, _, .refl, by rw [hmr, hfo, e, Bool.false_and]; rfl, rfl, rfl⟩
            · have e : decide (findAt g.ds[u].name g.ds 0 = (u : Int)) = true := by simpa using h2
              refine ArithOb.mk _ (next_wr (i := u) (by omega)) ?_
              refine ⟨u + 1, ⟨⟨by omega, ?_⟩, by omega⟩, .refl, .cons .refl (.cons .refl .nil), .cons rfl .nil⟩
              rw [hfo, e, Bool.true_and]
          have hue : u = g.n := by simp at h; omega
          rw [List.drop_of_length_le (by simp; omega)] at hfo
          rw [hfo, List.all_nil, Bool.not_true, cond_false] at hmr
          -- calls
          refine LoopOb.inv (ι := Nat) (fun i => { fl := [(1, .ref 1 0), (7, .val (.int .i64 i))], cl := [(1, [.slice g.a g.n g.c])], gi := I }) (fun i => i ≤ g.n ∧ (g.ds.all fun d => d.t.ns.all (nodeOk2 g.ds)) = ((g.ds.drop i).all fun d => d.t.ns.all (nodeOk2 g.ds))) (fun i => g.n - i) ?_ ?_
          · exact ⟨0, ⟨Nat.zero_le _, rfl⟩, .refl, .cons .refl (.cons .refl .nil), .cons rfl .nil⟩
          rintro p ⟨hp, hpa⟩
          refine CondOb.mk (fun h => ?_) (fun h => ?_)
          · have hlt : p < g.n := by simpa using h
            have hlt' : p < g.ds.length := by omega
            obtain ⟨ad, had, hrd⟩ := hg.rs.row Df.cells_len hlt hlt'
            have hdrop : g.ds.drop p = g.ds[p] :: g.ds.drop (p + 1) := List.drop_eq_getElem_cons hlt'
            have ht := (hg.ds _ (List.getElem_mem hlt')).t
            rw [hdrop, List.all_cons] at hpa
            generalize g.ds[p] = d at hrd hpa ht
            have htn := ht.n
            refine IdxOb.mk ad p had rfl hlt ?_
            refine LoadOb.mk _ (Rd.part (k := 0) (m := 1) (Rd.part (k := 1) (m := 2) (hrd _) (by decide)) (by decide)) ?_
            refine LoopOb.inv (ι := Nat) (fun k => { fl := [(1, .ref 1 0), (7, .val (.int .i64 p)), (8, .val (.slice d.t.a d.t.n d.t.c)), (9, .val (.int .i64 k))], cl := [(1, [.slice g.a g.n g.c])], gi := I }) (fun k => k ≤ d.t.n ∧ d.t.ns.all (nodeOk2 g.ds) = (d.t.ns.drop k).all (nodeOk2 g.ds)) (fun k => d.t.n - k) ?_ ?_
            · exact ⟨0, ⟨Nat.zero_le _, rfl⟩, .refl, .cons .refl (.cons .refl (.cons .refl (.cons .refl .nil))), .cons rfl .nil⟩
            rintro w ⟨hw, hwa⟩
            refine CondOb.mk (fun h3 => ?_) (fun h3 => ?_)
            · have hwl : w < d.t.n := by simpa using h3
              have hwl' : w < d.t.ns.length := by omega
              obtain ⟨aq, haq, hrq⟩ := ht.rs.row Nd.cells_len hwl hwl'
              have hcap := ht.rs.cap
              have hdrop2 : d.t.ns.drop w = d.t.ns[w] :: d.t.ns.drop (w + 1) := List.drop_eq_getElem_cons hwl'
              rw [hdrop2, List.all_cons, nodeOk2] at hwa
              refine CodeOb.draw TryzEOK rfl rfl rfl ?_
              refine IdxOb.mk aq w haq rfl hwl ?_
              refine LoadOb.mk _ (Rd.part (k := 0) (m := 1) (hrq _) (by decide)) ?_
              refine GuardOb.mk (fun c1 => ?_) (fun c1 => ?_)
              · have e3 : decide (d.t.ns[w].k = 3) = true := c1
                refine IdxOb.mk aq w haq rfl hwl ?_
                refine LoadOb.mk _ (Rd.part (k := 5) (m := 1) (hrq _) (by decide)) ?_
                refine CallOb.mk [] [] _ (.refl _) (RFind_spec hg d.t.ns[w].t) ?_
                rintro v J N - ⟨rfl, hJ, rfl⟩
                subst J
                refine CondOb.mk (fun c2 => ?_) (fun c2 => ?_)
                · have e : decide (0 ≤ findAt d.t.ns[w].t g.ds 0) = false := by simp at c2 ⊢; omega
                  exact ⟨_, _, .refl, by rw [hmr, hpa, hwa, e3, e]; rfl, rfl, rfl⟩
                · have e : decide (0 ≤ findAt d.t.ns[w].t g.ds 0) = true := by simp at c2 ⊢; omega
                  refine ArithOb.mk _ (next_wr (i := w) (by omega)) ?_
                  refine ⟨w + 1, ⟨⟨by omega, ?_⟩, by omega⟩, .refl, .cons .refl (.cons .refl (.cons .refl (.cons .refl .nil))), .cons rfl .nil⟩
                  rw [hwa, e, Bool.or_true, Bool.true_and]
              · have e3 : decide (d.t.ns[w].k = 3) = false := c1
                refine ArithOb.mk _ (next_wr (i := w) (by omega)) ?_
                refine ⟨w + 1, ⟨⟨by omega, ?_⟩, by omega⟩, .refl, .cons .refl (.cons .refl (.cons .refl (.cons .refl .nil))), .cons rfl .nil⟩
                rw [hwa, e3]
                rfl
            · have hwe : w = d.t.n := by simp at h3; omega
              rw [List.drop_of_length_le (by omega)] at hwa
              refine ArithOb.mk _ (next_wr (i := p) (by omega)) ?_
              refine ⟨p + 1, ⟨⟨by omega, ?_⟩, by omega⟩, .refl, .cons .refl (.cons .refl .nil), .cons rfl .nil⟩
              rw [hpa, hwa, List.all_nil, Bool.true_and]
          · have hpe : p = g.n := by simp at h; omega
            rw [List.drop_of_length_le (by omega)] at hpa
            exact ⟨_, _, .refl, by rw [hmr, hpa]; rfl, rfl, rfl⟩
        · have hbt : b = true := by simpa using k3
          exact ⟨_, _, .refl, by rw [hmr, large_of (deb := deb) (hP.trans hbt)]; rfl, rfl, rfl⟩
    · have hke : k = g.n := by simp at k1; omega
      have hP : (decide (1024 < nodesG g) || !g.ds.all fun d => mayTree d.t) = b := by
        rw [hb, hke, List.drop_of_length_le (by omega)]
        simp
      refine GuardOb.mk (fun k3 => ?_) (fun k3 => ?_)
      · have hbf : b = false := by simpa using k3
        rw [hbf, Bool.or_eq_false_iff, Bool.not_eq_false', List.all_eq_true] at hP
        have hall : ∀ d ∈ g.ds, Fit d.t 1000000 ∧ d.t.n ≤ 1024 := fun d hd => by
          have := hP.2 d hd
          unfold mayTree at this
          simp only [Bool.and_eq_true, decide_eq_true_eq] at this
          exact ⟨hf.ds d hd, this.1⟩
        have hgl := small_gram (deb := deb) (ds := g.ds) (fun d hd => by rw [(hg.ds d hd).t.n]; exact (hall d hd).2) (by omega)
        refine CallOb.mk [] [] _ (.refl _) (RGrammar_spec hcl hg hn64 hall (by decide)) ?_
        rintro v J N - ⟨rfl, hJ, rfl⟩
        subst J
        have hlg : largeG deb g = decide (8192 < (gramB deb g.ds []).length) := by
          have e1 : decide (64 < g.n) = false := decide_eq_false (by omega)
          have e2 : (g.ds.all fun d => mayTree d.t) = true := List.all_eq_true.2 hP.2
          rw [largeG, e1, e2, hP.1]
          rfl
        have hsz : ((strOf (gramB deb g.ds [])).size : Int) = ((gramB deb g.ds []).length : Int) := rfl
        refine CondOb.mk (fun k4 => ?_) (fun k4 => ?_)
        · have : largeG deb g = true := by
            rw [hlg]
            rw [hsz] at k4
            simp at k4 ⊢
            omega
          exact ⟨_, _, .refl, by rw [hmr, this]; rfl, rfl, rfl⟩
        have hlf : largeG deb g = false := by
          rw [hlg]
          rw [hsz] at k4
          simp at k4 ⊢
          omega
        rw [hlf, cond_false] at hmr
        -- names
        refine LoopOb.inv (ι := Nat) (fun i => { fl := [(1, .ref 1 0), (6, .val (.int .i64 i))], cl := [(1, [.slice g.a g.n g.c])], gi := I }) (fun i => i ≤ g.n ∧ (List.range g.ds.length).all (firstOf g.ds) = ((List.range g.ds.length).drop i).all (firstOf g.ds)) (fun i => g.n - i) ?_ ?_
        · exact ⟨0, ⟨Nat.zero_le _, rfl⟩, .refl, .cons .refl (.cons .refl .nil), .cons rfl .nil⟩
        rintro u ⟨hu, hfo⟩
        refine CondOb.mk (fun h => ?_) (fun h => ?_)
        · have hlt : u < g.n := by simpa using h
          have hlt' : u < g.ds.length := by omega
          obtain ⟨ad, had, hrd⟩ := hg.rs.row Df.cells_len hlt hlt'
          rw [all_drop_lt _ hlt', firstOf_lt hlt'] at hfo
          refine CodeOb.draw TryzEOK rfl rfl rfl ?_
          refine IdxOb.mk ad u had rfl hlt ?_
          refine LoadOb.mk _ (Rd.part (k := 0) (m := 1) (hrd _) (by decide)) ?_
          refine PCallOb.mk _ (RFind_spec hg g.ds[u].name) ?_
          rintro v J N - ⟨rfl, hJ, rfl⟩
          subst J
          refine CondOb.mk (fun h2 => ?_) (fun h2 => ?_)
          · have e : decide (findAt g.ds[u].name g.ds 0 = (u : Int)) = false := by simpa using h2
            exact ⟨_, _, .refl, by rw [hmr, hfo, e, Bool.false_and]; rfl, rfl, rfl⟩
          · have e : decide (findAt g.ds[u].name g.ds 0 = (u : Int)) = true := by simpa using h2
            refine ArithOb.mk _ (next_wr (i := u) (by omega)) ?_
            refine ⟨u + 1, ⟨⟨by omega, ?_⟩, by omega⟩, .refl, .cons .refl (.cons .refl .nil), .cons rfl .nil⟩
            rw [hfo, e, Bool.true_and]
        have hue : u = g.n := by simp at h; omega
        rw [List.drop_of_length_le (by simp; omega)] at hfo
        rw [hfo, List.all_nil, Bool.not_true, cond_false] at hmr
        -- calls
        refine LoopOb.inv (ι := Nat) (fun i => { fl := [(1, .ref 1 0), (7, .val (.int .i64 i))], cl := [(1, [.slice g.a g.n g.c])], gi := I }) (fun i => i ≤ g.n ∧ (g.ds.all fun d => d.t.ns.all (nodeOk2 g.ds)) = ((g.ds.drop i).all fun d => d.t.ns.all (nodeOk2 g.ds))) (fun i => g.n - i) ?_ ?_
        · exact ⟨0, ⟨Nat.zero_le _, rfl⟩, .refl, .cons .refl (.cons .refl .nil), .cons rfl .nil⟩
        rintro p ⟨hp, hpa⟩
        refine CondOb.mk (fun h => ?_) (fun h => ?_)
        · have hlt : p < g.n := by simpa using h
          have hlt' : p < g.ds.length := by omega
          obtain ⟨ad, had, hrd⟩ := hg.rs.row Df.cells_len hlt hlt'
          have hdrop : g.ds.drop p = g.ds[p] :: g.ds.drop (p + 1) := List.drop_eq_getElem_cons hlt'
          have ht := (hg.ds _ (List.getElem_mem hlt')).t
          rw [hdrop, List.all_cons] at hpa
          generalize g.ds[p] = d at hrd hpa ht
          have htn := ht.n
          refine IdxOb.mk ad p had rfl hlt ?_
          refine LoadOb.mk _ (Rd.part (k := 0) (m := 1) (Rd.part (k := 1) (m := 2) (hrd _) (by decide)) (by decide)) ?_
          refine LoopOb.inv (ι := Nat) (fun k => { fl := [(1, .ref 1 0), (7, .val (.int .i64 p)), (8, .val (.slice d.t.a d.t.n d.t.c)), (9, .val (.int .i64 k))], cl := [(1, [.slice g.a g.n g.c])], gi := I }) (fun k => k ≤ d.t.n ∧ d.t.ns.all (nodeOk2 g.ds) = (d.t.ns.drop k).all (nodeOk2 g.ds)) (fun k => d.t.n - k) ?_ ?_
          · exact ⟨0, ⟨Nat.zero_le _, rfl⟩, .refl, .cons .refl (.cons .refl (.cons .refl (.cons .refl .nil))), .cons rfl .nil⟩
          rintro w ⟨hw, hwa⟩
          refine CondOb.mk (fun h3 => ?_) (fun h3 => ?_)
          · have hwl : w < d.t.n := by simpa using h3
            have hwl' : w < d.t.ns.length := by omega
            obtain ⟨aq, haq, hrq⟩ := ht.rs.row Nd.cells_len hwl hwl'
            have hcap := ht.rs.cap
            have hdrop2 : d.t.ns.drop w = d.t.ns[w] :: d.t.ns.drop (w + 1) := List.drop_eq_getElem_cons hwl'
            rw [hdrop2, List.all_cons, nodeOk2] at hwa
            refine CodeOb.draw TryzEOK rfl rfl rfl ?_
            refine IdxOb.mk aq w haq rfl hwl ?_
            refine LoadOb.mk _ (Rd.part (k := 0) (m := 1) (hrq _) (by decide)) ?_
            refine GuardOb.mk (fun c1 => ?_) (fun c1 => ?_)
            · have e3 : decide (d.t.ns[w].k = 3) = true := c1
              refine IdxOb.mk aq w haq rfl hwl ?_
              refine LoadOb.mk _ (Rd.part (k := 5) (m := 1) (hrq _) (by decide)) ?_
              refine CallOb.mk [] [] _ (.refl _) (RFind_spec hg d.t.ns[w].t) ?_
              rintro v J N - ⟨rfl, hJ, rfl⟩
              subst J
              refine CondOb.mk (fun c2 => ?_) (fun c2 => ?_)
              · have e : decide (0 ≤ findAt d.t.ns[w].t g.ds 0) = false := by simp at c2 ⊢; omega
                exact ⟨_, _, .refl, by rw [hmr, hpa, hwa, e3, e]; rfl, rfl, rfl⟩
              · have e : decide (0 ≤ findAt d.t.ns[w].t g.ds 0) = true := by simp at c2 ⊢; omega
                refine ArithOb.mk _ (next_wr (i := w) (by omega)) ?_
                refine ⟨w + 1, ⟨⟨by omega, ?_⟩, by omega⟩, .refl, .cons .refl (.cons .refl (.cons .refl (.cons .refl .nil))), .cons rfl .nil⟩
                rw [hwa, e, Bool.or_true, Bool.true_and]
            · have e3 : decide (d.t.ns[w].k = 3) = false := c1
              refine ArithOb.mk _ (next_wr (i := w) (by omega)) ?_
              refine ⟨w + 1, ⟨⟨by omega, ?_⟩, by omega⟩, .refl, .cons .refl (.cons .refl (.cons .refl (.cons .refl .nil))), .cons rfl .nil⟩
              rw [hwa, e3]
              rfl
          · have hwe : w = d.t.n := by simp at h3; omega
            rw [List.drop_of_length_le (by omega)] at hwa
            refine ArithOb.mk _ (next_wr (i := p) (by omega)) ?_
            refine ⟨p + 1, ⟨⟨by omega, ?_⟩, by omega⟩, .refl, .cons .refl (.cons .refl .nil), .cons rfl .nil⟩
            rw [hpa, hwa, List.all_nil, Bool.true_and]
        · have hpe : p = g.n := by simp at h; omega
          rw [List.drop_of_length_le (by omega)] at hpa
          exact ⟨_, _, .refl, by rw [hmr, hpa]; rfl, rfl, rfl⟩
      · have hbt : b = true := by simpa using k3
        exact ⟨_, _, .refl, by rw [hmr, large_of (deb := deb) (hP.trans hbt)]; rfl, rfl, rfl⟩
  · have hn64 : 64 < g.n := by simp at h1; omega
    refine LoopOb.inv (ι := Nat × Bool) (fun x => { fl := [(1, .ref 1 0), (4, .val (.bool x.2)), (5, .val (.int .i64 x.1))], cl := [(1, [.slice g.a g.n g.c])], gi := I })
      (fun x => x.1 ≤ g.n ∧ true = (x.2 || !(g.ds.drop x.1).all fun d => mayTree d.t)) (fun x => g.n - x.1) ?_ ?_
    · exact ⟨(0, true), ⟨Nat.zero_le _, rfl⟩, .refl, .cons .refl (.cons .lit (.cons .refl .nil)), .cons rfl .nil⟩
    rintro ⟨k, b⟩ ⟨hk, hb⟩
    simp only at hk hb
    refine GuardOb.mk (fun k1 => ?_) (fun k1 => ?_)
    · have hkl : k < g.n := by simpa using k1
      have hkl' : k < g.ds.length := by omega
      refine CondOb.mk (fun k2 => ?_) (fun k2 => ?_)
      · have hbf : b = false := by simpa using k2
        obtain ⟨ad, had, hrd⟩ := hg.rs.row Df.cells_len hkl hkl'
        have hdm : g.ds[k] ∈ g.ds := List.getElem_mem hkl'
        have hdrop : g.ds.drop k = g.ds[k] :: g.ds.drop (k + 1) := List.drop_eq_getElem_cons hkl'
        refine IdxOb.mk ad k had rfl hkl ?_
        refine LoadOb.mk _ (Rd.part (k := 1) (m := 2) (hrd _) (by decide)) ?_
        refine CallOb.mk [] [] _ (.refl _) (RTMay_spec (hg.ds _ hdm).t (hf.ds _ hdm)) ?_
        rintro v J N - ⟨rfl, hJ, rfl⟩
        subst J
        refine ArithOb.mk _ (next_wr (i := k) (by omega)) ?_
        refine ⟨(k + 1, !mayTree g.ds[k].t), ⟨⟨by simp only; omega, ?_⟩, by simp only; omega⟩, .refl, .cons .refl (.cons .refl (.cons .refl .nil)), .cons rfl .nil⟩
        simp only
        rw [hb, hdrop, List.all_cons, hbf, Bool.false_or, Bool.not_and]
      · have hbt : b = true := by simpa using k2
        have hP : true = b := by rw [hb, hbt, Bool.true_or]
        refine GuardOb.mk (fun k3 => ?_) (fun k3 => ?_)
        · have hbf : b = false := by simpa using k3
          rw [hbf] at hP
          cases hP
        · have hbt : b = true := by simpa using k3
          exact ⟨_, _, .refl, by rw [hmr, show largeG deb g = true from by rw [largeG, decide_eq_true hn64, Bool.true_or]]; rfl, rfl, rfl⟩
    · have hke : k = g.n := by simp at k1; omega
      have hP : true = b := by
        rw [hb, hke, List.drop_of_length_le (by omega)]
        simp
      refine GuardOb.mk (fun k3 => ?_) (fun k3 => ?_)
      · have hbf : b = false := by simpa using k3
        rw [hbf] at hP
        cases hP
      · have hbt : b = true := by simpa using k3
        exact ⟨_, _, .refl, by rw [hmr, show largeG deb g = true from by rw [largeG, decide_eq_true hn64, Bool.true_or]]; rfl, rfl, rfl⟩
end Go.V

/-
  Walks: bonsairef12.calls, there, Calls.
-/
set_option linter.unusedVariables false
set_option linter.unusedSimpArgs false
namespace Go.V
open Go Go.Proofs

/-- Does a body call a rule by this name? -/
def namesR (ns : List Nd) (nm : ByteArray) : Bool := ns.any fun n => decide (n.k = 3) && decide (n.t = nm)
theorem namesR_cons (d : Nd) (ds : List Nd) (nm : ByteArray) : namesR (d :: ds) nm = ((decide (d.k = 3) && decide (d.t = nm)) || namesR ds nm) := rfl
def callR (g : Gr) (i k : Nat) : Bool := match g.ds[i]?, g.ds[k]? with
  | some d, some e => namesR d.t.ns e.name
  | _, _ => false
theorem callR_at {g : Gr} {i k : Nat} (hi : i < g.ds.length) (hk : k < g.ds.length) : callR g i k = namesR g.ds[i].t.ns g.ds[k].name := by
  unfold callR
  rw [List.getElem?_eq_getElem hi, List.getElem?_eq_getElem hk]

set_option maxHeartbeats 1000000 in
theorem Rcalls_spec {I : GH} {g : Gr} (hg : g.ok I) {i k : Nat} (hi : i < g.n) (hk : k < g.n) : Spec Tryz.prog 40 [g.val, .int .i64 i, .int .i64 k] I [] (fun v I' M' => v = .bool (callR g i k) ∧ I' = I ∧ M' = []) := by
  refine spec_of_V [] TryzEOK Tryz.func40 rfl rfl rfl ?_
  intro B h0
  have hgn := hg.n
  have hi' : i < g.ds.length := by omega
  have hk' : k < g.ds.length := by omega
  rw [callR_at hi' hk']
  obtain ⟨ai, hai, hri⟩ := hg.rs.row Df.cells_len hi hi'
  obtain ⟨ak, hak, hrk⟩ := hg.rs.row Df.cells_len hk hk'
  have ht := (hg.ds _ (List.getElem_mem hi')).t
  generalize g.ds[i] = d at hri ht
  generalize g.ds[k] = e at hrk
  have htn := ht.n
  have hcap := ht.rs.cap
  refine IdxOb.mk ai i hai rfl hi ?_
  refine LoadOb.mk _ (Rd.part (k := 0) (m := 1) (Rd.part (k := 1) (m := 2) (hri _) (by decide)) (by decide)) ?_
  refine LoopOb.inv (ι := Nat) (fun n => { fl := [(1, .val (.int .i64 i)), (2, .val (.int .i64 k)), (3, .ref 3 0), (7, .val (.slice d.t.a d.t.n d.t.c)), (8, .val (.int .i64 n))], cl := [(3, [.slice g.a g.n g.c])], gi := I }) (fun n => n ≤ d.t.n ∧ namesR d.t.ns e.name = namesR (d.t.ns.drop n) e.name) (fun n => d.t.n - n) ?_ ?_
  · exact ⟨0, ⟨Nat.zero_le _, rfl⟩, .refl, .cons .refl (.cons .refl (.cons .refl (.cons .refl (.cons .refl .nil)))), .cons rfl .nil⟩
  rintro w ⟨hw, hwa⟩
  refine CondOb.mk (fun h3 => ?_) (fun h3 => ?_)
  · have hwl : w < d.t.n := by simpa using h3
    have hwl' : w < d.t.ns.length := by omega
    obtain ⟨aq, haq, hrq⟩ := ht.rs.row Nd.cells_len hwl hwl'
    have hdrop2 : d.t.ns.drop w = d.t.ns[w] :: d.t.ns.drop (w + 1) := List.drop_eq_getElem_cons hwl'
    rw [hdrop2, namesR_cons] at hwa
    refine CodeOb.draw TryzEOK rfl rfl rfl ?_
    refine IdxOb.mk aq w haq rfl hwl ?_
    refine LoadOb.mk _ (Rd.part (k := 0) (m := 1) (hrq _) (by decide)) ?_
    refine GuardOb.mk (fun c1 => ?_) (fun c1 => ?_)
    · have e3 : decide (d.t.ns[w].k = 3) = true := c1
      refine IdxOb.mk aq w haq rfl hwl ?_
      refine LoadOb.mk _ (Rd.part (k := 5) (m := 1) (hrq _) (by decide)) ?_
      refine IdxOb.mk ak k hak rfl hk ?_
      refine LoadOb.mk _ (Rd.part (k := 0) (m := 1) (hrk _) (by decide)) ?_
      refine CondOb.mk (fun c2 => ?_) (fun c2 => ?_)
      · have e4 : decide (d.t.ns[w].t = e.name) = true := c2
        exact ⟨_, _, .refl, by rw [hwa, e3, e4]; rfl, rfl, rfl⟩
      · have e4 : decide (d.t.ns[w].t = e.name) = false := c2
        refine ArithOb.mk _ (next_wr (i := w) (by omega)) ?_
        refine ⟨w + 1, ⟨⟨by omega, ?_⟩, by omega⟩, .refl, .cons .refl (.cons .refl (.cons .refl (.cons .refl (.cons .refl .nil)))), .cons rfl .nil⟩
        rw [hwa, e3, e4]
        rfl
    · have e3 : decide (d.t.ns[w].k = 3) = false := c1
      refine ArithOb.mk _ (next_wr (i := w) (by omega)) ?_
      refine ⟨w + 1, ⟨⟨by omega, ?_⟩, by omega⟩, .refl, .cons .refl (.cons .refl (.cons .refl (.cons .refl (.cons .refl .nil)))), .cons rfl .nil⟩
      rw [hwa, e3]
      rfl
  · have hwe : w = d.t.n := by simp at h3; omega
    rw [List.drop_of_length_le (by omega)] at hwa
    exact ⟨_, _, .refl, by rw [hwa]; rfl, rfl, rfl⟩

/-- May the grammar be, and is there such a rule? -/
def thereR (deb : List Int) (g : Gr) (i : Int) : Bool := inR i g.n && decide (mayG deb g = 0)
theorem Rthere_spec {I : GH} {deb : List Int} (hcl : ClsOk deb) {g : Gr} (hg : g.ok I) (hf : GFit g) (i : Int) : Spec Tryz.prog 38 [g.val, .int .i64 i] I [] (fun v I' M' => v = .bool (thereR deb g i) ∧ I' = I ∧ M' = []) := by
  have hm := RMay9_spec hcl hg hf
  rw [mayR_eq] at hm
  refine spec_of_V [] TryzEOK Tryz.func38 rfl rfl rfl ?_
  intro B h0
  refine CallOb.mk [] [] _ (.refl _) hm ?_
  rintro v J N - ⟨rfl, hJ, rfl⟩
  subst J
  refine GuardOb.mk (fun h1 => ?_) (fun h1 => ?_)
  · refine GuardOb.mk (fun h2 => ?_) (fun h2 => ?_)
    · refine ⟨_, _, .refl, congrArg Value.bool ?_, rfl, rfl⟩
      have e1 : decide (i < 0) = false := by simp at h2 ⊢; omega
      have e2 : decide (mayG deb g = 0) = true := h1
      have e3 : decide (i < (g.n : Int)) = !decide ((g.n : Int) ≤ i) := by
        rw [← decide_not]
        exact decide_eq_decide.2 (by omega)
      rw [thereR, inR, e1, e2]
      simpa using e3
    · refine ⟨_, _, .refl, congrArg Value.bool ?_, rfl, rfl⟩
      have e1 : decide (i < 0) = true := by simp at h2 ⊢; omega
      rw [thereR, inR, e1]
      rfl
  · refine ⟨_, _, .refl, congrArg Value.bool ?_, rfl, rfl⟩
    have e2 : decide (mayG deb g = 0) = false := h1
    rw [thereR, e2, Bool.and_false]

/-- The numbers below n that are marked. -/
def pickL (p : Nat → Bool) (n : Nat) : List Int := ((List.range n).filter p).map fun (k : Nat) => (k : Int)
theorem pickL_succ (p : Nat → Bool) (n : Nat) : pickL p (n + 1) = pickL p n ++ (bif p n then [(n : Int)] else []) := by
  unfold pickL
  rw [List.range_succ, List.filter_append, List.map_append]
  cases h : p n <;> simp [h]
theorem pickL_len (p : Nat → Bool) (n : Nat) : (pickL p n).length ≤ n := by
  have := List.length_filter_le p (List.range n)
  simpa [pickL] using this
def callsR (deb : List Int) (g : Gr) (i : Int) : List Int := bif thereR deb g i then pickL (callR g i.toNat) g.n else []
theorem there_in {deb : List Int} {g : Gr} {i : Int} (h : thereR deb g i = true) : 0 ≤ i ∧ i.toNat < g.n := by
  unfold thereR inR at h
  simp at h
  omega

theorem RCalls_spec {I : GH} {deb : List Int} (hcl : ClsOk deb) {g : Gr} (hg : g.ok I) (hf : GFit g) (i : Int) : Spec Tryz.prog 13 [g.val, .int .i64 i] I [] fun v I' M' => I' = I ∧ ∃ os : OS, v = os.val ∧ os.ok 1 ((callsR deb g i).map (.int .i64 ·)) ∧ M' = os.blk 3 := by
  refine spec_of_V [] TryzEOK Tryz.func13 rfl rfl rfl ?_
  intro B h0
  have hfn := hf.n
  refine CallOb.mk [] [] _ (.refl _) (Rthere_spec hcl hg hf i) ?_
  rintro v J N - ⟨rfl, hJ, rfl⟩
  subst J
  refine CondOb.mk (fun h => ?_) (fun h => ?_)
  · have ht : thereR deb g i = false := by simpa using h
    exact ⟨_, _, .refl, rfl, OS0, rfl, by rw [callsR, ht]; exact OS0_ok 1, rfl⟩
  have ht : thereR deb g i = true := by simpa using h
  obtain ⟨hi0, hin⟩ := there_in ht
  have hcr : callsR deb g i = pickL (callR g i.toNat) g.n := by rw [callsR, ht]; rfl
  obtain ⟨i, rfl⟩ := Int.eq_ofNat_of_zero_le hi0
  rw [hcr]
  simp only [Int.toNat_natCast] at hin ⊢
  refine LoopOb.inv (ι := Nat × OS) (fun x => { fl := [(1, .val (.int .i64 i)), (2, .ref 2 0), (5, .val x.2.val), (6, .val (.int .i64 x.1))], cl := [(2, [.slice g.a g.n g.c])], gi := I, mi := x.2.blk 3 }) (fun x => x.1 ≤ g.n ∧ x.2.ok 1 ((pickL (callR g i) x.1).map (.int .i64 ·))) (fun x => g.n - x.1) ?_ ?_
  · exact ⟨(0, OS0), ⟨Nat.zero_le _, OS0_ok 1⟩, .refl, .cons .refl (.cons .refl (.cons .refl (.cons .refl .nil))), .cons rfl .nil⟩
  rintro ⟨k, os⟩ ⟨hk, hos⟩
  simp only at hk hos
  have hol := hos.len1
  have hll := pickL_len (callR g i) k
  have hsn := pickL_succ (callR g i) k
  refine CondOb.mk (fun h => ?_) (fun h => ?_)
  · have hlt : k < g.n := by simpa using h
    refine CallOb.mk [] (os.blk 3) _ (.refl _) (Rcalls_spec hg hin hlt) ?_
    rintro v J N - ⟨rfl, hJ, rfl⟩
    subst J
    refine CondOb.mk (fun h2 => ?_) (fun h2 => ?_)
    · rw [h2, cond_true] at hsn
      refine AllocOb.mk fun b9 hb9 hbM9 => ?_
      refine OtherOb.appendN TryzEOK rfl (by simp) (e := 3) rfl rfl rfl os hos rfl (m := 1) rfl (news := [.int .i64 k]) (by decide) (blk_rd (b := b9) (cs := [.int .i64 k]) (k := 0) (n := 1) (T := 3) (.head _) (by simp)) rfl (Mr := [⟨b9, .cells #[.int .i64 k] 3 (0, 0)⟩]) (List.perm_append_comm (l₁ := [_])) (by simp only [maxLen]; omega) (by show (os.n + 1) * 8 ≤ _; omega) ?_
      intro g' c' cur' q0 q1 q2 q3 q4
      refine ArithOb.mk _ (next_wr (i := k) (by omega)) ?_
      refine ⟨(k + 1, ⟨some g', os.n + 1, c', cur'⟩), ⟨⟨by simp only; omega, ?_⟩, by simp only; omega⟩, .sub (List.Sublist.cons_cons _ (List.nil_sublist _)) .refl, .cons .refl (.cons .refl (.cons .refl (.cons .refl .nil))), .cons rfl .nil⟩
      simp only
      rw [hsn, List.map_append]
      exact app1_ok hos q1 q2 q3 q4
    · rw [h2, cond_false, List.append_nil] at hsn
      refine ArithOb.mk _ (next_wr (i := k) (by omega)) ?_
      refine ⟨(k + 1, os), ⟨⟨by simp only; omega, ?_⟩, by simp only; omega⟩, .refl, .cons .refl (.cons .refl (.cons .refl (.cons .refl .nil))), .cons rfl .nil⟩
      simp only
      rw [hsn]
      exact hos
  · have hke : k = g.n := by simp at h; omega
    subst hke
    exact ⟨_, _, .refl, rfl, os, rfl, hos, rfl⟩
end Go.V

/-
  Plain: who reaches whom, by rounds (bonsairef12.table).
-/
set_option linter.unusedVariables false
set_option linter.unusedSimpArgs false
namespace Go.V
open Go Go.Proofs

def baseR (g : Gr) (i k : Nat) : Bool := decide (i = k) || callR g i k
/-- Reached by steps whose places between are below m. -/
def PV (g : Gr) : Nat → Nat → Nat → Prop
  | 0, i, k => baseR g i k = true
  | m + 1, i, k => PV g m i k ∨ (PV g m i m ∧ PV g m m k)
theorem PV.base {g : Gr} {i k : Nat} (h : baseR g i k = true) : ∀ m, PV g m i k
  | 0 => h
  | m + 1 => .inl (PV.base h m)
theorem PV.trans {g : Gr} : ∀ {m i j k : Nat}, PV g m i j → PV g m j k → j < m → PV g m i k
  | m + 1, i, j, k, h1, h2, hj => by
    by_cases e : j = m
    · subst e
      have a1 : PV g j i j := h1.elim id (·.1)
      have a2 : PV g j j k := h2.elim id (·.2)
      exact .inr ⟨a1, a2⟩
    · have hj : j < m := by omega
      rcases h1 with h1 | ⟨h1, h1'⟩ <;> rcases h2 with h2 | ⟨h2, h2'⟩
      · exact .inl (PV.trans h1 h2 hj)
      · exact .inr ⟨PV.trans h1 h2 hj, h2'⟩
      · exact .inr ⟨h1, PV.trans h1' h2 hj⟩
      · exact .inr ⟨h1, h2'⟩

/-- A called rule's number is in the row of the program's table, and no other. -/
theorem thereL_at {ds : List Df} {n : Nat} (hn : ds.length = n) : ∀ (names : List ByteArray) (s : List Bool), s.length = n → ∀ k, k < n → ((names.foldl (fun s nm => markK n s (findAt nm ds 0)) s).getD k false = true ↔ s.getD k false = true ∨ ∃ nm ∈ names, findAt nm ds 0 = (k : Int))
  | [], s, hs, k, hk => by simp
  | nm :: names, s, hs, k, hk => by
    rw [List.foldl_cons, thereL_at hn names _ (by rw [markK_len]; exact hs) k hk]
    have hm : (markK n s (findAt nm ds 0)).getD k false = true ↔ s.getD k false = true ∨ findAt nm ds 0 = (k : Int) := by
      unfold markK
      cases hb : decide (0 ≤ findAt nm ds 0) && decide (findAt nm ds 0 < n) with
      | true =>
        rw [cond_true]
        simp at hb
        simp only [List.getD_eq_getElem?_getD, List.getElem?_set]
        by_cases e : (findAt nm ds 0).toNat = k
        · have : findAt nm ds 0 = (k : Int) := by omega
          simp [e, this, hs, hk]
        · have : ¬ findAt nm ds 0 = (k : Int) := by omega
          simp [e, this]
      | false =>
        rw [cond_false]
        have : ¬ findAt nm ds 0 = (k : Int) := by
          intro e
          rw [e] at hb
          simp at hb
          omega
        simp [this]
    rw [hm]
    constructor
    · rintro ((h | h) | ⟨x, hx, h⟩)
      · exact .inl h
      · exact .inr ⟨nm, by simp, h⟩
      · exact .inr ⟨x, by simp [hx], h⟩
    · rintro (h | ⟨x, hx, h⟩)
      · exact .inl (.inl h)
      · rcases List.mem_cons.1 hx with rfl | hx
        · exact .inl (.inr h)
        · exact .inr ⟨x, hx, h⟩
theorem findAt_name {nm : ByteArray} : ∀ (ds : List Df) (i k : Nat), findAt nm ds i = (k : Int) → ∃ j, ∃ (h : j < ds.length), k = i + j ∧ ds[j].name = nm
  | [], i, k, h => by
    unfold findAt at h
    omega
  | d :: ds, i, k, h => by
    unfold findAt at h
    cases hc : decide (d.name = nm) with
    | true =>
      rw [hc, cond_true] at h
      exact ⟨0, by simp, by omega, by simpa using hc⟩
    | false =>
      rw [hc, cond_false] at h
      obtain ⟨j, hj, e1, e2⟩ := findAt_name ds (i + 1) k h
      exact ⟨j + 1, by simp; omega, by omega, by simpa using e2⟩
/-- No name twice. -/
theorem may_first {deb : List Int} {g : Gr} (hn : g.ds.length = g.n) (h : mayG deb g = 0) : ∀ i (hi : i < g.ds.length), findAt g.ds[i].name g.ds 0 = (i : Int) := by
  rw [← mayR_eq] at h
  intro i hi
  have hall : (List.range g.ds.length).all (firstOf g.ds) = true := by
    unfold mayR at h
    cases hb : (List.range g.ds.length).all (firstOf g.ds) with
    | true => rfl
    | false =>
      rw [hb] at h
      exfalso
      revert h
      cases decide ((g.n : Int) = 0) <;> cases (!okDefs g.ds) <;> cases largeG deb g <;> simp
  have := List.all_eq_true.1 hall i (List.mem_range.2 hi)
  rw [firstOf_lt hi] at this
  simpa using this
theorem calledL_mem {deb : List Int} {g : Gr} (hn : g.ds.length = g.n) (h : mayG deb g = 0) {t : Tr} {k : Nat} (hk : k < g.ds.length) : (thereL g.ds g.n (namedL t.ns)).getD k false = true ↔ namesR t.ns g.ds[k].name = true := by
  rw [thereL, thereL_at hn (namedL t.ns) _ (by simp) k (by omega)]
  have hz : (List.replicate g.n false).getD k false = true ↔ False := by
    by_cases hk2 : k < g.n <;> simp [List.getD_eq_getElem?_getD, List.getElem?_replicate, hk2]
  rw [hz, false_or]
  unfold namesR namedL
  rw [List.any_eq_true]
  constructor
  · rintro ⟨nm, hnm, hf⟩
    obtain ⟨nd, hnd, rfl⟩ := List.mem_map.1 hnm
    obtain ⟨h1, h2⟩ := List.mem_filter.1 hnd
    obtain ⟨j, hj, e1, e2⟩ := findAt_name g.ds 0 k hf
    have : j = k := by omega
    subst this
    exact ⟨nd, h1, by rw [h2, Bool.true_and]; exact decide_eq_true e2.symm⟩
  · rintro ⟨nd, hnd, hp⟩
    simp only [Bool.and_eq_true, decide_eq_true_eq] at hp
    refine ⟨nd.t, List.mem_map.2 ⟨nd, List.mem_filter.2 ⟨hnd, by simp [hp.1]⟩, rfl⟩, ?_⟩
    rw [hp.2]
    exact may_first hn h k hk
/-- The program's row of calls is the document's. -/
theorem listL_pick : ∀ (s : List Bool), listL true 0 s = pickL (fun k => s.getD k false) s.length := by
  intro s
  have : ∀ n, n ≤ s.length → listL true 0 (s.take n) = pickL (fun k => s.getD k false) n := by
    intro n
    induction n with
    | zero => intro _; rfl
    | succ n ih =>
      intro hn
      have hn' : n < s.length := by omega
      rw [List.take_succ_eq_append_getElem hn', listL_snoc, ih (by omega), pickL_succ, List.length_take_of_le (by omega), Nat.zero_add]
      have e : s.getD n false = s[n] := by simp [List.getD_eq_getElem?_getD, hn']
      rw [e]
      cases s[n] <;> rfl
  have h := this s.length (Nat.le_refl _)
  rwa [List.take_of_length_le (Nat.le_refl _)] at h
theorem pickL_congr {p q : Nat → Bool} {n : Nat} (h : ∀ k, k < n → p k = q k) : pickL p n = pickL q n := by
  unfold pickL
  congr 1
  apply List.filter_congr
  intro k hk
  exact h k (List.mem_range.1 hk)
theorem calledL_eq {deb : List Int} {g : Gr} (hn : g.ds.length = g.n) (h : mayG deb g = 0) {i : Nat} (hi : i < g.ds.length) : calledL g g.ds[i].t = pickL (callR g i) g.n := by
  rw [calledL, listL_pick, thereL_len]
  apply pickL_congr
  intro k hk
  rw [callR_at hi (by omega), Bool.eq_iff_iff]
  exact calledL_mem hn h (by omega)
theorem callsR_eq (deb : List Int) {g : Gr} (hn : g.ds.length = g.n) (i : Int) : callsR deb g i = callsG deb g i := by
  unfold callsR callsG
  show (bif thereR deb g i then _ else _) = bif thereR deb g i then _ else _
  cases ht : thereR deb g i with
  | false => rfl
  | true =>
    obtain ⟨h1, h2⟩ := there_in ht
    have hm : mayG deb g = 0 := by
      unfold thereR at ht
      simp at ht
      exact ht.2
    rw [cond_true, cond_true, ← calledL_eq hn hm (i := i.toNat) (by omega)]
    simp [callsL, List.getD_eq_getElem?_getD, show i.toNat < g.ds.length by omega]

/-! ### The rounds -/
def at2 (R : List (List Bool)) (i k : Nat) : Bool := (R.getD i []).getD k false
def set2 (R : List (List Bool)) (i k : Nat) (v : Bool) : List (List Bool) := R.set i ((R.getD i []).set k v)
structure Sq (n : Nat) (R : List (List Bool)) : Prop where
  len : R.length = n
  row : ∀ i (h : i < R.length), R[i].length = n
theorem Sq.set {n : Nat} {R : List (List Bool)} (h : Sq n R) {i k : Nat} (hi : i < n) (v : Bool) : Sq n (set2 R i k v) := by
  refine ⟨by simp [set2, h.len], fun j hj => ?_⟩
  simp only [set2, List.length_set] at hj
  have hil : i < R.length := by rw [h.len]; exact hi
  simp only [set2, List.getElem_set]
  split
  · rw [List.length_set]
    simp [List.getD_eq_getElem?_getD, hil, h.row i hil]
  · exact h.row j hj
theorem at2_set {n : Nat} {R : List (List Bool)} (h : Sq n R) {i k : Nat} (hi : i < n) (hk : k < n) (v : Bool) (a b : Nat) : at2 (set2 R i k v) a b = bif decide (a = i ∧ b = k) then v else at2 R a b := by
  have hil : i < R.length := by rw [h.len]; exact hi
  have hkl : k < R[i].length := by rw [h.row i hil]; exact hk
  unfold at2 set2
  simp only [List.getD_eq_getElem?_getD, List.getElem?_set]
  by_cases ha : i = a
  · subst ha
    simp only [if_true, hil, if_true, Option.getD_some, List.getElem?_eq_getElem hil]
    rw [List.getElem?_set]
    by_cases hb : k = b
    · subst hb
      simp [hkl]
    · have : ¬ (b = k) := fun e => hb e.symm
      simp [hb, this]
  · have : ¬ (a = i) := fun e => ha e.symm
    simp [ha, this]
/-- What holds of the marks within a round. -/
structure InRound (g : Gr) (m : Nat) (A R : List (List Bool)) (done : Nat → Nat → Prop) : Prop where
  sound : ∀ i k, at2 R i k = true → PV g g.n i k
  grow : ∀ i k, at2 A i k = true → at2 R i k = true
  new : ∀ i k, done i k → at2 A i m = true → at2 A m k = true → at2 R i k = true
theorem InRound.step {g : Gr} {m : Nat} {A R : List (List Bool)} {d d' : Nat → Nat → Prop} (h : InRound g m A R d) (hR : Sq g.n R) {i k : Nat} (hi : i < g.n) (hk : k < g.n) (hm : m < g.n) (hd : ∀ a b, d' a b → d a b ∨ (a = i ∧ b = k)) :
    InRound g m A (set2 R i k (at2 R i k || (at2 R i m && at2 R m k))) d' := by
  have hs := at2_set hR hi hk (at2 R i k || (at2 R i m && at2 R m k))
  have up : ∀ a b, at2 R a b = true → at2 (set2 R i k (at2 R i k || (at2 R i m && at2 R m k))) a b = true := fun a b hab => by
    rw [hs]
    by_cases e : a = i ∧ b = k
    · obtain ⟨rfl, rfl⟩ := e
      simp [hab]
    · simp [e, hab]
  refine ⟨fun a b hab => ?_, fun a b hab => up a b (h.grow a b hab), fun a b hdab h1 h2 => ?_⟩
  · rw [hs] at hab
    by_cases e : a = i ∧ b = k
    · obtain ⟨rfl, rfl⟩ := e
      simp at hab
      rcases hab with hab | ⟨q1, q2⟩
      · exact h.sound _ _ hab
      · exact PV.trans (h.sound _ _ q1) (h.sound _ _ q2) hm
    · simp [e] at hab
      exact h.sound _ _ hab
  · rcases hd a b hdab with hdab | ⟨rfl, rfl⟩
    · exact up a b (h.new a b hdab h1 h2)
    · rw [hs]
      simp [h.grow _ _ h1, h.grow _ _ h2]
structure RoundInv (g : Gr) (m : Nat) (R : List (List Bool)) : Prop where
  sq : Sq g.n R
  sound : ∀ i k, at2 R i k = true → PV g g.n i k
  comp : ∀ i k, i < g.n → k < g.n → PV g m i k → at2 R i k = true
theorem RoundInv.begin {g : Gr} {m : Nat} {R : List (List Bool)} (h : RoundInv g m R) : InRound g m R R fun _ _ => False := ⟨h.sound, fun _ _ h => h, fun _ _ h => h.elim⟩
theorem RoundInv.next {g : Gr} {m : Nat} {A R : List (List Bool)} (hA : RoundInv g m A) (hm : m < g.n) (hR : Sq g.n R) (h : InRound g m A R fun i k => i < g.n ∧ k < g.n) : RoundInv g (m + 1) R := by
  refine ⟨hR, h.sound, fun i k hi hk hp => ?_⟩
  rcases hp with hp | ⟨h1, h2⟩
  · exact h.grow _ _ (hA.comp i k hi hk hp)
  · exact h.new i k ⟨hi, hk⟩ (hA.comp i m hi hm h1) (hA.comp m k hm hk h2)
end Go.V

/-
  More rules: one value behind the others of an own row, in its place among the own blocks; weaker states behind an operation.
-/
set_option linter.unusedVariables false
set_option linter.unusedSimpArgs false
namespace Go.V
open Go

/-- A call that sees all own blocks. -/
theorem CallOb.whole {foot : List Nat} {P : Program} {f : Nat} {args : List Value} {I : GH} {M : List Blk} {K : Value → GH → List Blk → Prop} (post : Value → GH → List Blk → Prop) (hs : Spec P f args I M post)
    (k : ∀ v I' M', (∀ b o, I b = some o → I' b = some o) → post v I' M' → K v I' M') : CallOb foot P f args I M K :=
  .mk M [] post (by simp) hs fun v I' M' h1 h2 => by rw [List.append_nil]; exact k v I' M' h1 h2
theorem PCallOb.whole {foot : List Nat} {P : Program} {f : Nat} {args : List Value} {I : GH} {M : List Blk} {K : Value → GH → List Blk → Prop} (post : Value → GH → List Blk → Prop) (hs : Spec P f args I M post) (keep : ∀ v I' M', post v I' M' → ∀ x ∈ M, x ∈ M')
    (k : ∀ v I' M', (∀ b o, I b = some o → I' b = some o) → post v I' M' → K v I' M') : PCallOb foot P f args I M K :=
  .mkR M [] post (by simp) hs keep fun v I' M' h1 h2 => by rw [List.append_nil]; exact k v I' M' h1 h2

section
variable {X : Ctx} {β : Nat → Nat} {a : Act} {w : World} {F : Fr} {C : Bx} {I : GH} {M : List Blk} {o : Oper} {K : KS}

theorem Wk.eqM {foot : List Nat} {I : GH} {M M' : List Blk} (h : M = M') : Wk foot I M I M' := by
  subst h
  exact .refl
theorem OtherOb.wk (h : OtherOb X o F C I M fun F C I M => ∃ I' M', Wk X.foot I M I' M' ∧ K F C I' M') : OtherOb X o F C I M K := by
  obtain ⟨h⟩ := h
  refine ⟨fun a w Q hR => Oper.wpIn_mono ?_ (h a w Q hR)⟩
  rintro a' w' ⟨F', C', I', M', ⟨β, hr⟩, I2, M2, hw, hk⟩
  exact ⟨F', C', I2, M2, ⟨β, hr.wk hw⟩, hk⟩

/-- 'append(s, x)' of one value that lies in a row of its own (made for that call): s is the function's own. -/
theorem OtherOb.app1 (hE : EOK X.P X.E) {s x : Operand} {t : Nat} (ho : o.op = .call { callee := .builtin .append, args := #[s, x], argTypes := #[t, t] }) (hd : ∀ d, o.dst = some d → d < X.n)
    {e : Nat} {ti ei : TI} (ht : X.E t = some ti) (hts : ti.sh = .slice e) (he : X.E e = some ei)
    (os : OS) {xs : List Value} (hok : os.ok ei.size xs) (hs : ev F s = .val os.val)
    {b9 : Nat} {cs : List Value} {c' : Nat} (hx : ev F x = .val (.slice (some ⟨b9, 0, none⟩) 1 c')) (hl : cs.length = ei.size) (h1 : allOne cs = true)
    (pre post : List Blk) (hM : M = ⟨b9, .cells cs.toArray e (0, 0)⟩ :: (pre ++ (os.blk e ++ post))) (b1 : os.n + 1 ≤ 9223372036854775807) (b2 : (os.n + 1) * ei.bytes ≤ 140737488355328)
    (k : ∀ os' : OS, os'.n = os.n + 1 → (∀ g, os'.a = some g → I g = none) → os'.ok ei.size (xs ++ cs) → K (put o.dst (.val os'.val) F) C I (pre ++ (os'.blk e ++ post))) : OtherOb X o F C I M K := by
  refine .wk (.appendN hE ho hd ht hts he os hok hs (m := 1) (news := cs) hx (by decide) ?_ h1 (Mr := ⟨b9, .cells cs.toArray e (0, 0)⟩ :: (pre ++ post)) ?_ (by unfold maxLen; exact b1) b2 ?_)
  · rw [Nat.one_mul]
    refine ⟨rfl, _, _, _, .inr ⟨⟨b9, .cells cs.toArray e (0, 0)⟩, by rw [hM]; exact .head _, rfl, rfl⟩, ?_, hl⟩
    simp only [List.drop_zero]
    exact List.take_of_length_le (by omega)
  · rw [hM]
    have h2 : (⟨b9, .cells cs.toArray e (0, 0)⟩ :: (pre ++ (os.blk e ++ post)) : List Blk).Perm (⟨b9, .cells cs.toArray e (0, 0)⟩ :: (os.blk e ++ (pre ++ post))) := .cons _ (List.perm_append_comm_assoc _ _ _)
    exact h2.trans List.perm_middle.symm
  · intro g c cur hI q1 q2 q3 q4
    refine ⟨I, pre ++ ((⟨some g, os.n + 1, c, cur⟩ : OS).blk e ++ post), .sub (M1 := ⟨g, .cells cur.toArray e (0, 0)⟩ :: (pre ++ post)) (.cons_cons _ (.cons _ (.refl _))) (.perm ?_ .refl), k ⟨some g, os.n + 1, c, cur⟩ rfl (fun g' hg => by cases hg; exact hI) ⟨?_, (fun h => by cases h), fun g' hg => ?_⟩⟩
    · exact List.perm_middle.symm
    · rw [List.length_append, hok.len, hl, Nat.add_mul, Nat.one_mul]
    · cases hg
      exact ⟨q1, q2, q3, q4⟩

/-- 'append(s, l...)': s is the function's own; what l has may be read. -/
theorem OtherOb.appL (hE : EOK X.P X.E) {s x : Operand} {t : Nat} (ho : o.op = .call { callee := .builtin .append, args := #[s, x], argTypes := #[t, t] }) (hd : ∀ d, o.dst = some d → d < X.n)
    {e : Nat} {ti ei : TI} (ht : X.E t = some ti) (hts : ti.sh = .slice e) (he : X.E e = some ei)
    (os : OS) {xs : List Value} (hok : os.ok ei.size xs) (hs : ev F s = .val os.val)
    {sa : Option Addr} {m c' : Nat} {news : List Value} (hx : ev F x = .val (.slice sa m c')) (hl : news.length = m * ei.size) (hn : 0 < m → ∃ ad, sa = some ad ∧ Rd I M ad (m * ei.size) news) (h1 : allOne news = true)
    (pre post : List Blk) (hM : M = pre ++ (os.blk e ++ post)) (b1 : os.n + m ≤ 9223372036854775807) (b2 : (os.n + m) * ei.bytes ≤ 140737488355328)
    (k : ∀ os' : OS, os'.n = os.n + m → (0 < m → ∀ g, os'.a = some g → I g = none) → os'.ok ei.size (xs ++ news) → K (put o.dst (.val os'.val) F) C I (pre ++ (os'.blk e ++ post))) : OtherOb X o F C I M K := by
  by_cases h0 : m = 0
  · subst h0
    have hnil : news = [] := List.eq_nil_of_length_eq_zero (by simpa using hl)
    subst hnil
    refine .append0 hE ho hd ht hts ht (fun k => by rw [hts]; simp) he (sa := os.a.map fun g => ⟨g, 0, none⟩) (n := os.n) (c := os.c) hs ?_ hx (.inl ⟨_, _, rfl⟩) ?_
    · cases ha : os.a with
      | none => obtain ⟨q1, q2⟩ := hok.nil ha; omega
      | some g => exact (hok.cap g ha).2.1
    · have := k os rfl (fun h => by omega) (by rw [List.append_nil]; exact hok)
      rw [hM]
      exact this
  obtain ⟨ad, rfl, hrd⟩ := hn (by omega)
  refine .wk (.appendN hE ho hd ht hts he os hok hs (m := m) (news := news) hx (by omega) hrd h1 (Mr := pre ++ post) ?_ (by unfold maxLen; exact b1) b2 ?_)
  · rw [hM]
    exact (List.perm_append_comm_assoc _ _ _)
  · intro g c cur hI q1 q2 q3 q4
    refine ⟨I, pre ++ ((⟨some g, os.n + m, c, cur⟩ : OS).blk e ++ post), .perm ?_ .refl, k ⟨some g, os.n + m, c, cur⟩ rfl (fun _ g' hg => by cases hg; exact hI) ⟨?_, (fun h => by cases h), fun g' hg => ?_⟩⟩
    · exact List.perm_middle.symm
    · rw [List.length_append, hok.len, hl, Nat.add_mul]
    · cases hg
      exact ⟨q1, q2, q3, q4⟩
end
end Go.V

/-
  Rows of rows of marks, of the function's own.
-/
set_option linter.unusedVariables false
set_option linter.unusedSimpArgs false
namespace Go.V
open Go Go.Proofs

def rowV (n b : Nat) : Value := .slice (some ⟨b, 0, none⟩) n n
def hdrC (n : Nat) (bs : List Nat) : List Value := bs.map (rowV n) ++ List.replicate (n - bs.length) (.slice none 0 0)
def hdr (b0 n : Nat) (bs : List Nat) : Blk := ⟨b0, .cells (hdrC n bs).toArray 74 (0, 0)⟩
def rowsB (bs : List Nat) (R : List (List Bool)) : List Blk := List.zipWith boolRow bs R
theorem hdr_rd {I : GH} {M : List Blk} {b0 n : Nat} {bs : List Nat} (hM : hdr b0 n bs ∈ M) {i : Nat} (hi : i < bs.length) : Rd I M ((⟨b0, 0, none⟩ : Addr).add (i * 1)) 1 [rowV n bs[i]] := by
  have hl : i < (hdrC n bs).length := by simp [hdrC]; omega
  have h := blk_rd (I := I) (cs := hdrC n bs) (k := i * 1) (n := 1) hM (by omega)
  have e : ((hdrC n bs).drop (i * 1)).take 1 = [rowV n bs[i]] := by
    rw [Nat.mul_one, List.drop_eq_getElem_cons hl, List.take_succ_cons, List.take_zero]
    simp [hdrC, hi]
  rwa [e] at h
theorem rowsB_mem {bs : List Nat} {R : List (List Bool)} {i : Nat} (hi : i < bs.length) (hr : i < R.length) : boolRow bs[i] R[i] ∈ rowsB bs R := by
  rw [rowsB, List.mem_iff_getElem]
  exact ⟨i, by simp; omega, by simp⟩
theorem rowsB_split {bs : List Nat} {R : List (List Bool)} {i : Nat} (hi : i < bs.length) (hr : i < R.length) : rowsB bs R = (rowsB bs R).take i ++ boolRow bs[i] R[i] :: (rowsB bs R).drop (i + 1) := by
  have hl : i < (rowsB bs R).length := by simp [rowsB]; omega
  have e : (rowsB bs R)[i] = boolRow bs[i] R[i] := by simp [rowsB]
  rw [← e, ← List.drop_eq_getElem_cons hl, List.take_append_drop]
theorem rowsB_set {bs : List Nat} {R : List (List Bool)} {i : Nat} (hi : i < bs.length) (hr : i < R.length) (r : List Bool) : rowsB bs (R.set i r) = (rowsB bs R).take i ++ boolRow bs[i] r :: (rowsB bs R).drop (i + 1) := by
  have hl : i < (rowsB bs R).length := by simp [rowsB]; omega
  have e : rowsB bs (R.set i r) = (rowsB bs R).set i (boolRow bs[i] r) := by
    apply List.ext_getElem
    · simp [rowsB]
    · intro j h1 h2
      simp only [rowsB, List.getElem_zipWith, List.getElem_set]
      split
      · rename_i h; subst h; rfl
      · rfl
  rw [e, List.set_eq_take_append_cons_drop, if_pos hl]
theorem at2_eq {n : Nat} {R : List (List Bool)} (h : Sq n R) {i k : Nat} (hi : i < R.length) (hk : k < R[i].length) : R[i][k] = at2 R i k := by
  simp [at2, List.getD_eq_getElem?_getD, hi, hk]

/-- All own blocks given away. -/
theorem giveAll : ∀ (L : List Blk) (I : GH), (∀ x ∈ L, I x.num = none) → (L.map (·.num)).Nodup → ∃ I', Wk [] I L I' [] ∧ (∀ b o, I b = some o → I' b = some o) ∧ ∀ x ∈ L, I' x.num = some x.obj
  | [], I, _, _ => ⟨I, .refl, fun _ _ h => h, fun x hx => by cases hx⟩
  | x :: xs, I, h, hd => by
    obtain ⟨hd1, hd2⟩ := List.nodup_cons.1 hd
    have hx := h x (by simp)
    have hle := ins_le (o := x.obj) hx
    obtain ⟨I', w1, w2, w3⟩ := giveAll xs (ins I x.num x.obj) (fun y hy => by
      have hne : y.num ≠ x.num := fun e => hd1 (List.mem_map.2 ⟨y, hy, e⟩)
      unfold ins
      rw [beq_ne hne]
      exact h y (by simp [hy])) hd2
    refine ⟨I', .prom (b := x.num) (o := x.obj) (post := xs) rfl (by simp) w1, fun b o hb => w2 _ _ (hle _ _ hb), fun y hy => ?_⟩
    rcases List.mem_cons.1 hy with rfl | hy
    · exact w2 _ _ (ins_self ..)
    · exact w3 y hy
/-- The rows of marks, given away. -/
theorem giveMat {I : GH} {b0 n : Nat} {bs : List Nat} {R : List (List Bool)} (hn : n ≤ 1099511627776) (hb : bs.length = n) (hR : Sq n R) (hfa : Fa I (hdr b0 n bs :: rowsB bs R)) :
    ∃ I' x, Wk [] I (hdr b0 n bs :: rowsB bs R) I' [] ∧ (∀ b o, I b = some o → I' b = some o) ∧ Lb.ok I' x ∧ x.val = .slice (some ⟨b0, 0, none⟩) n n ∧ x.rows.map (·.l) = R := by
  obtain ⟨I', w1, w2, w3⟩ := giveAll _ I hfa.d hfa.nd
  have h0 := w3 (hdr b0 n bs) (by simp)
  refine ⟨I', ⟨List.zipWith (fun b r => ⟨some ⟨b, 0, none⟩, n, n, r⟩) bs R, some ⟨b0, 0, none⟩, n, n⟩, w1, w2, ⟨⟨by simp [hb, hR.len], ⟨Nat.le_refl _, by simp only; omega⟩, .inr ⟨_, rfl, rfl, _, _, _, h0, ?_⟩⟩, fun r hr => ?_⟩, rfl, ?_⟩
  · have e : hdrC n bs = bs.map (rowV n) := by simp [hdrC, hb]
    have e2 : (List.zipWith (fun b r => (⟨some ⟨b, 0, none⟩, n, n, r⟩ : Rb)) bs R).map Rb.val = bs.map (rowV n) := by
      apply List.ext_getElem
      · simp [hb, hR.len]
      · intro j h1 h2
        simp [Rb.val, rowV]
    rw [e2]
    simp only [List.drop_zero]
    rw [e]
    exact List.take_of_length_le (by simp [hb])
  · obtain ⟨i, hi, rfl⟩ := List.mem_iff_getElem.1 hr
    simp only [List.length_zipWith] at hi
    have hib : i < bs.length := by omega
    have hiR : i < R.length := by omega
    have hrow := w3 (boolRow bs[i] R[i]) (List.mem_cons_of_mem _ (rowsB_mem hib hiR))
    have hrl := hR.row i hiR
    simp only [List.getElem_zipWith]
    refine ⟨⟨by simp [hrl], ⟨Nat.le_refl _, by simp only; omega⟩, .inr ⟨_, rfl, rfl, _, _, _, hrow, ?_⟩⟩⟩
    simp only [List.drop_zero]
    exact List.take_of_length_le (by simp [hrl])
  · apply List.ext_getElem
    · simp [hb, hR.len]
    · intro j h1 h2
      simp
end Go.V

/-
  Walk: bonsairef12.table.
-/
set_option linter.unusedVariables false
set_option linter.unusedSimpArgs false
namespace Go.V
open Go Go.Proofs

def row0 (g : Gr) (n i : Nat) : List Bool := (List.range n).map fun k => baseR g i k
theorem row0_at {g : Gr} {n i k : Nat} (hk : k < n) : (row0 g n i).getD k false = baseR g i k := by
  simp [row0, List.getD_eq_getElem?_getD, hk]
/-- A row filled as far as k. -/
def rowTo (g : Gr) (n i k : Nat) : List Bool := (row0 g n i).take k ++ List.replicate (n - k) false
theorem rowTo_len {g : Gr} {n i k : Nat} (hk : k ≤ n) : (rowTo g n i k).length = n := by
  simp [rowTo, row0]
  omega
theorem rowTo_set {g : Gr} {n i k : Nat} (hk : k < n) : (rowTo g n i k).set k (baseR g i k) = rowTo g n i (k + 1) := by
  have hl : (row0 g n i).length = n := by simp [row0]
  have h1 : List.replicate (n - k) false = false :: List.replicate (n - (k + 1)) false := by
    rw [show n - k = (n - (k + 1)) + 1 by omega, List.replicate_succ]
  unfold rowTo
  rw [h1, List.set_append_right _ _ (by simp [hl]; omega), List.length_take_of_le (by omega), Nat.sub_self, List.set_cons_zero, List.take_succ_eq_append_getElem (by omega), List.append_assoc]
  simp [row0]
theorem rowTo_full {g : Gr} {n i : Nat} : rowTo g n i n = row0 g n i := by
  simp [rowTo, row0]
  exact List.take_of_length_le (by simp)

set_option maxRecDepth 100000 in
set_option maxHeartbeats 8000000 in
theorem Rtable_spec {I : GH} {g : Gr} (hg : g.ok I) (hn : g.n ≤ 1000000) : Spec Tryz.prog 39 [g.val] I [] fun v I' M' => (∀ b o, I b = some o → I' b = some o) ∧ M' = [] ∧ ∃ x : Lb, v = x.val ∧ x.ok I' ∧ x.n = g.n ∧ RoundInv g g.n (x.rows.map (·.l)) := by
  refine spec_of_VF [] TryzEOK Tryz.func39 rfl rfl rfl ?_
  intro B h0
  have hgn := hg.n
  obtain ⟨n, hnn⟩ : ∃ n, n = g.n := ⟨_, rfl⟩
  refine MakeOb.mk g.n g.n rfl rfl (Nat.le_refl _) (by show 24 * g.n ≤ _; omega) (by omega) ?_
  refine AllocOb.mk fun b0 hb0 hbM0 => ?_
  -- the rows
  refine LoopOb.inv (ι := Nat × List Nat) (fun x => { fl := [(1, .ref 1 0), (3, .val (.int .i64 g.n)), (4, .val (.slice (some ⟨b0, 0, none⟩) g.n g.n)), (5, .val (.int .i64 x.1))], cl := [(1, [.slice g.a g.n g.c])], gi := I, mi := hdr b0 g.n x.2 :: rowsB x.2 ((List.range x.1).map (row0 g g.n)) }) (fun x => x.1 ≤ g.n ∧ x.2.length = x.1) (fun x => g.n - x.1) ?_ ?_
  · refine ⟨(0, []), ⟨Nat.zero_le _, rfl⟩, ?_, .cons .refl (.cons .refl (.cons .refl (.cons .refl .nil))), .cons rfl .nil⟩
    refine Wk.eqM ?_
    simp only [hdr, hdrC, rowsB, List.map_nil, List.nil_append, List.length_nil, Nat.sub_zero, List.zipWith_nil_left]
    rw [rowOf_one, Nat.mul_one]
  rintro ⟨i, bs⟩ ⟨hi, hbs⟩
  simp only at hi hbs
  refine CondOb.mk (fun h => ?_) (fun h => ?_)
  · have hlt : i < g.n := by simpa using h
    refine MakeOb.mk g.n g.n rfl rfl (Nat.le_refl _) (by show 1 * g.n ≤ _; omega) (by omega) ?_
    refine AllocOb.mk fun b hb hbM => ?_
    refine IdxOb.mk ⟨b0, 0, none⟩ i rfl rfl hlt ?_
    refine StoreOb.addTo [⟨b, .cells (rowOf [.bool false] (g.n * 1)).toArray 4 (0, 0)⟩] (rowsB bs ((List.range i).map (row0 g g.n))) (hdrC g.n bs) 74 rfl ?_ rfl (hdrC g.n (bs ++ [b])) ?_ ?_
    · have : (hdrC g.n bs).length = g.n := by simp [hdrC]; omega
      rw [this]
      exact Nat.ble_eq_true_of_le (by show 0 + i * 1 + 1 ≤ _; omega)
    · have hrep : List.replicate (g.n - bs.length) (Value.slice none 0 0) = .slice none 0 0 :: List.replicate (g.n - (bs ++ [b]).length) (.slice none 0 0) := by
        rw [show g.n - bs.length = (g.n - (bs ++ [b]).length) + 1 from by simp; omega, List.replicate_succ]
      have e := splice_pre (pre := bs.map (rowV g.n)) (post := List.replicate (g.n - (bs ++ [b]).length) (.slice none 0 0)) (z := .slice none 0 0) (v := rowV g.n b) (k := 0 + i * 1) (by simp [hbs])
      unfold hdrC
      rw [hrep, List.map_append, List.append_assoc]
      exact e
    refine LoopOb.inv (ι := Nat) (fun k => { fl := [(1, .ref 1 0), (3, .val (.int .i64 g.n)), (4, .val (.slice (some ⟨b0, 0, none⟩) g.n g.n)), (5, .val (.int .i64 i)), (6, .val (.int .i64 k))], cl := [(1, [.slice g.a g.n g.c])], gi := I, mi := boolRow b (rowTo g g.n i k) :: hdr b0 g.n (bs ++ [b]) :: rowsB bs ((List.range i).map (row0 g g.n)) }) (fun k => k ≤ g.n) (fun k => g.n - k) ?_ ?_
    · refine ⟨0, Nat.zero_le _, ?_, .cons .refl (.cons .refl (.cons .refl (.cons .refl (.cons .refl .nil)))), .cons rfl .nil⟩
      refine Wk.eqM ?_
      simp only [hdr, boolRow, rowTo, List.take_zero, List.nil_append, Nat.sub_zero, List.map_replicate]
      rw [rowOf_one, Nat.mul_one]
      rfl
    rintro k hk
    refine CondOb.mk (fun h2 => ?_) (fun h2 => ?_)
    · have hkl : k < g.n := by simpa using h2
      have hrl := rowTo_len (g := g) (i := i) (Nat.le_of_lt hkl)
      have hrd : ∀ M, hdr b0 g.n (bs ++ [b]) ∈ M → Rd I M ((⟨b0, 0, none⟩ : Addr).add (i * 1)) 1 [rowV g.n b] := fun M hM => by
        have h := hdr_rd (I := I) hM (i := i) (by simp; omega)
        simpa [hbs] using h
      have hst := boolRow_set (rowTo g g.n i k) k (by omega) (baseR g i k)
      rw [rowTo_set hkl] at hst
      have hend : ∀ v, v = baseR g i k → splice ((rowTo g g.n i k).map Value.bool) (0 + k * 1) [Value.bool v] = (rowTo g g.n i (k + 1)).map Value.bool := fun v hv => by
        rw [hv, Nat.zero_add, Nat.mul_one]
        exact hst
      have hble : Nat.ble (0 + k * 1 + 1) ((rowTo g g.n i k).map Value.bool).length = true := Nat.ble_eq_true_of_le (by simp; omega)
      refine CodeOb.draw TryzEOK rfl rfl rfl ?_
      refine IdxOb.mk ⟨b0, 0, none⟩ i rfl rfl hlt ?_
      refine LoadOb.mk _ (hrd _ (.tail _ (.head _))) ?_
      refine GuardOb.mk (fun c1 => ?_) (fun c1 => ?_)
      · have e1 : decide (i = k) = false := by simp at c1 ⊢; omega
        refine PCallOb.mk _ (Rcalls_spec hg hlt hkl) ?_
        rintro v J N - ⟨rfl, hJ, rfl⟩
        subst J
        refine IdxOb.mk ⟨b, 0, none⟩ k rfl rfl hkl ?_
        refine StoreOb.addTo [] _ _ _ rfl hble rfl _ (hend _ (by rw [baseR, e1, Bool.false_or])) ?_
        refine ArithOb.mk _ (next_wr (i := k) (by omega)) ?_
        exact ⟨k + 1, ⟨hkl, by omega⟩, .refl, .cons .refl (.cons .refl (.cons .refl (.cons .refl (.cons .refl .nil)))), .cons rfl .nil⟩
      · have e1 : decide (i = k) = true := by simp at c1 ⊢; omega
        refine IdxOb.mk ⟨b, 0, none⟩ k rfl rfl hkl ?_
        refine StoreOb.addTo [] _ _ _ rfl hble rfl _ (hend true (by rw [baseR, e1, Bool.true_or])) ?_
        refine ArithOb.mk _ (next_wr (i := k) (by omega)) ?_
        exact ⟨k + 1, ⟨hkl, by omega⟩, .refl, .cons .refl (.cons .refl (.cons .refl (.cons .refl (.cons .refl .nil)))), .cons rfl .nil⟩
    · have hke : k = g.n := by simp at h2; omega
      subst hke
      refine ArithOb.mk _ (next_wr (i := i) (by omega)) ?_
      refine ⟨(i + 1, bs ++ [b]), ⟨⟨hlt, by simp [hbs]⟩, by simp only; omega⟩, ?_, .cons .refl (.cons .refl (.cons .refl (.cons .refl .nil))), .cons rfl .nil⟩
      simp only
      rw [rowTo_full, List.range_succ, List.map_append]
      have e : rowsB (bs ++ [b]) ((List.range i).map (row0 g g.n) ++ [row0 g g.n i]) = rowsB bs ((List.range i).map (row0 g g.n)) ++ [boolRow b (row0 g g.n i)] := by
        unfold rowsB
        rw [List.zipWith_append (by simp [hbs])]
        rfl
      rw [show List.map (row0 g g.n) [i] = [row0 g g.n i] from rfl, e]
      exact .perm ((List.Perm.swap _ _ _).trans ((List.perm_append_singleton _ _).symm.cons _)) .refl
  · have hie : i = g.n := by simp at h; omega
    subst hie
    have hR0 : RoundInv g 0 ((List.range g.n).map (row0 g g.n)) := by
      have hat : ∀ i k, i < g.n → k < g.n → at2 ((List.range g.n).map (row0 g g.n)) i k = baseR g i k := fun i k hi hk => by
        simp [at2, List.getD_eq_getElem?_getD, hi, row0, hk]
      refine ⟨⟨by simp, fun i hi => by simp [row0]⟩, fun i k h => ?_, fun i k hi hk h => ?_⟩
      · by_cases hi : i < g.n
        · by_cases hk : k < g.n
          · rw [hat i k hi hk] at h
            exact PV.base h _
          · exfalso
            simp [at2, List.getD_eq_getElem?_getD, hi, row0, hk] at h
        · exfalso
          simp [at2, List.getD_eq_getElem?_getD, hi] at h
      · rw [hat i k hi hk]
        exact h
    generalize (List.range g.n).map (row0 g g.n) = R0 at hR0
    refine LoopOb.inv (ι := Nat × List (List Bool)) (fun x => { fl := [(1, .ref 1 0), (3, .val (.int .i64 g.n)), (4, .val (.slice (some ⟨b0, 0, none⟩) g.n g.n)), (7, .val (.int .i64 x.1))], cl := [(1, [.slice g.a g.n g.c])], gi := I, mi := hdr b0 g.n bs :: rowsB bs x.2 }) (fun x => x.1 ≤ g.n ∧ RoundInv g x.1 x.2) (fun x => g.n - x.1) ?_ ?_
    · exact ⟨(0, R0), ⟨Nat.zero_le _, hR0⟩, .refl, .cons .refl (.cons .refl (.cons .refl (.cons .refl .nil))), .cons rfl .nil⟩
    rintro ⟨m, A⟩ ⟨hm, hA⟩
    simp only at hm hA
    refine CondOb.mk (fun h3 => ?_) (fun h3 => ?_)
    · have hml : m < g.n := by simpa using h3
      refine LoopOb.inv (ι := Nat × List (List Bool)) (fun x => { fl := [(1, .ref 1 0), (3, .val (.int .i64 g.n)), (4, .val (.slice (some ⟨b0, 0, none⟩) g.n g.n)), (7, .val (.int .i64 m)), (8, .val (.int .i64 x.1))], cl := [(1, [.slice g.a g.n g.c])], gi := I, mi := hdr b0 g.n bs :: rowsB bs x.2 }) (fun x => x.1 ≤ g.n ∧ Sq g.n x.2 ∧ InRound g m A x.2 fun a b => a < x.1 ∧ b < g.n) (fun x => g.n - x.1) ?_ ?_
      · refine ⟨(0, A), ⟨Nat.zero_le _, hA.sq, ?_⟩, .refl, .cons .refl (.cons .refl (.cons .refl (.cons .refl (.cons .refl .nil)))), .cons rfl .nil⟩
        exact ⟨hA.begin.sound, hA.begin.grow, fun a b h => absurd h.1 (Nat.not_lt_zero _)⟩
      rintro ⟨i, R⟩ ⟨hi, hsq, hin⟩
      simp only at hi hsq hin
      refine CondOb.mk (fun h4 => ?_) (fun h4 => ?_)
      · have hil : i < g.n := by simpa using h4
        refine LoopOb.inv (ι := Nat × List (List Bool)) (fun x => { fl := [(1, .ref 1 0), (3, .val (.int .i64 g.n)), (4, .val (.slice (some ⟨b0, 0, none⟩) g.n g.n)), (7, .val (.int .i64 m)), (8, .val (.int .i64 i)), (9, .val (.int .i64 x.1))], cl := [(1, [.slice g.a g.n g.c])], gi := I, mi := hdr b0 g.n bs :: rowsB bs x.2 }) (fun x => x.1 ≤ g.n ∧ Sq g.n x.2 ∧ InRound g m A x.2 fun a b => (a < i ∧ b < g.n) ∨ (a = i ∧ b < x.1)) (fun x => g.n - x.1) ?_ ?_
        · refine ⟨(0, R), ⟨Nat.zero_le _, hsq, ?_⟩, .refl, .cons .refl (.cons .refl (.cons .refl (.cons .refl (.cons .refl (.cons .refl .nil))))), .cons rfl .nil⟩
          exact ⟨hin.sound, hin.grow, fun a b h => hin.new a b (h.elim id fun h => absurd h.2 (Nat.not_lt_zero _))⟩
        rintro ⟨k, R⟩ ⟨hk, hsq, hin⟩
        simp only at hk hsq hin
        refine CondOb.mk (fun h5 => ?_) (fun h5 => ?_)
        · have hkl : k < g.n := by simpa using h5
          have hib : i < bs.length := by omega
          have hmb : m < bs.length := by omega
          have hiR : i < R.length := by rw [hsq.len]; exact hil
          have hmR : m < R.length := by rw [hsq.len]; exact hml
          have hri := hsq.row i hiR
          have hrm := hsq.row m hmR
          have hik : k < R[i].length := by omega
          have him : m < R[i].length := by omega
          have hmk : k < R[m].length := by omega
          have eik := at2_eq hsq hiR hik
          have eim := at2_eq hsq hiR him
          have emk := at2_eq hsq hmR hmk
          have hdm : hdr b0 g.n bs ∈ hdr b0 g.n bs :: rowsB bs R := .head _
          have hmi : boolRow bs[i] R[i] ∈ hdr b0 g.n bs :: rowsB bs R := List.mem_cons_of_mem _ (rowsB_mem hib hiR)
          have hmm : boolRow bs[m] R[m] ∈ hdr b0 g.n bs :: rowsB bs R := List.mem_cons_of_mem _ (rowsB_mem hmb hmR)
          have hM : hdr b0 g.n bs :: rowsB bs R = (hdr b0 g.n bs :: (rowsB bs R).take i) ++ ⟨bs[i], .cells (R[i].map Value.bool).toArray 4 (0, 0)⟩ :: (rowsB bs R).drop (i + 1) := by
            rw [List.cons_append]
            exact congrArg _ (rowsB_split hib hiR)
          have hble : Nat.ble (0 + k * 1 + 1) (R[i].map Value.bool).length = true := Nat.ble_eq_true_of_le (by simp; omega)
          have hend : ∀ v, v = (at2 R i k || (at2 R i m && at2 R m k)) → splice (R[i].map Value.bool) (0 + k * 1) [Value.bool v] = (R[i].set k (at2 R i k || (at2 R i m && at2 R m k))).map Value.bool := fun v hv => by
            rw [hv, Nat.zero_add, Nat.mul_one]
            exact boolRow_set _ k hik _
          have hnext : (k + 1 ≤ g.n ∧ Sq g.n (set2 R i k (at2 R i k || (at2 R i m && at2 R m k))) ∧ InRound g m A (set2 R i k (at2 R i k || (at2 R i m && at2 R m k))) fun a b => (a < i ∧ b < g.n) ∨ (a = i ∧ b < k + 1)) ∧ g.n - (k + 1) < g.n - k := by
            refine ⟨⟨hkl, hsq.set hil _, hin.step hsq hil hkl hml fun a b h => ?_⟩, by omega⟩
            rcases h with h | ⟨h1, h2⟩
            · exact .inl (.inl h)
            · by_cases e : b = k
              · exact .inr ⟨h1, e⟩
              · exact .inl (.inr ⟨h1, by omega⟩)
          have hres : (hdr b0 g.n bs :: (rowsB bs R).take i) ++ (⟨bs[i], .cells ((R[i].set k (at2 R i k || (at2 R i m && at2 R m k))).map Value.bool).toArray 4 (0, 0)⟩ : Blk) :: (rowsB bs R).drop (i + 1) = hdr b0 g.n bs :: rowsB bs (set2 R i k (at2 R i k || (at2 R i m && at2 R m k))) := by
            have e : R.getD i [] = R[i] := by simp [List.getD_eq_getElem?_getD, hiR]
            rw [set2, e, rowsB_set hib hiR]
            rfl
          refine CodeOb.draw TryzEOK rfl rfl rfl ?_
          refine IdxOb.mk ⟨b0, 0, none⟩ i rfl rfl hil ?_
          refine LoadOb.mk _ (hdr_rd hdm hib) ?_
          refine IdxOb.mk ⟨b0, 0, none⟩ i rfl rfl hil ?_
          refine LoadOb.mk _ (hdr_rd hdm hib) ?_
          refine IdxOb.mk ⟨bs[i], 0, none⟩ k rfl rfl hkl ?_
          refine LoadOb.mk _ (boolRow_rd hmi hik) ?_
          refine GuardOb.mk (fun c1 => ?_) (fun c1 => ?_)
          · rw [eik] at c1
            refine IdxOb.mk ⟨b0, 0, none⟩ i rfl rfl hil ?_
            refine LoadOb.mk _ (hdr_rd hdm hib) ?_
            refine IdxOb.mk ⟨bs[i], 0, none⟩ m rfl rfl hml ?_
            refine LoadOb.mk _ (boolRow_rd hmi him) ?_
            refine GuardOb.mk (fun c2 => ?_) (fun c2 => ?_)
            · rw [eim] at c2
              refine IdxOb.mk ⟨b0, 0, none⟩ m rfl rfl hml ?_
              refine LoadOb.mk _ (hdr_rd hdm hmb) ?_
              refine IdxOb.mk ⟨bs[m], 0, none⟩ k rfl rfl hkl ?_
              refine LoadOb.mk _ (boolRow_rd hmm hmk) ?_
              refine IdxOb.mk ⟨bs[i], 0, none⟩ k rfl rfl hkl ?_
              refine StoreOb.addTo (hdr b0 g.n bs :: (rowsB bs R).take i) ((rowsB bs R).drop (i + 1)) (R[i].map Value.bool) 4 hM hble rfl _ (hend R[m][k] (by rw [emk, c1, c2]; rfl)) ?_
              refine ArithOb.mk _ (next_wr (i := k) (by omega)) ?_
              exact ⟨(k + 1, set2 R i k (at2 R i k || (at2 R i m && at2 R m k))), hnext, Wk.eqM hres, .cons .refl (.cons .refl (.cons .refl (.cons .refl (.cons .refl (.cons .refl .nil))))), .cons rfl .nil⟩
            · rw [eim] at c2
              refine IdxOb.mk ⟨bs[i], 0, none⟩ k rfl rfl hkl ?_
              refine StoreOb.addTo (hdr b0 g.n bs :: (rowsB bs R).take i) ((rowsB bs R).drop (i + 1)) (R[i].map Value.bool) 4 hM hble rfl _ (hend false (by rw [c1, c2]; rfl)) ?_
              refine ArithOb.mk _ (next_wr (i := k) (by omega)) ?_
              exact ⟨(k + 1, set2 R i k (at2 R i k || (at2 R i m && at2 R m k))), hnext, Wk.eqM hres, .cons .refl (.cons .refl (.cons .refl (.cons .refl (.cons .refl (.cons .refl .nil))))), .cons rfl .nil⟩
          · rw [eik] at c1
            refine IdxOb.mk ⟨bs[i], 0, none⟩ k rfl rfl hkl ?_
            refine StoreOb.addTo (hdr b0 g.n bs :: (rowsB bs R).take i) ((rowsB bs R).drop (i + 1)) (R[i].map Value.bool) 4 hM hble rfl _ (hend true (by rw [c1]; rfl)) ?_
            refine ArithOb.mk _ (next_wr (i := k) (by omega)) ?_
            exact ⟨(k + 1, set2 R i k (at2 R i k || (at2 R i m && at2 R m k))), hnext, Wk.eqM hres, .cons .refl (.cons .refl (.cons .refl (.cons .refl (.cons .refl (.cons .refl .nil))))), .cons rfl .nil⟩
        · have hke : k = g.n := by simp at h5; omega
          subst hke
          refine ArithOb.mk _ (next_wr (i := i) (by omega)) ?_
          refine ⟨(i + 1, R), ⟨⟨hil, hsq, hin.sound, hin.grow, fun a b h => hin.new a b ?_⟩, by simp only; omega⟩, .refl, .cons .refl (.cons .refl (.cons .refl (.cons .refl (.cons .refl .nil)))), .cons rfl .nil⟩
          obtain ⟨q1, q2⟩ := h
          simp only at q1 q2
          by_cases e : a = i
          · exact .inr ⟨e, q2⟩
          · exact .inl ⟨by omega, q2⟩
      · have hie : i = g.n := by simp at h4; omega
        subst hie
        refine ArithOb.mk _ (next_wr (i := m) (by omega)) ?_
        exact ⟨(m + 1, R), ⟨⟨hml, hA.next hml hsq hin⟩, by simp only; omega⟩, .refl, .cons .refl (.cons .refl (.cons .refl (.cons .refl .nil))), .cons rfl .nil⟩
    · have hme : m = g.n := by simp at h3; omega
      subst hme
      intro hfa
      obtain ⟨I', x, w1, w2, w3, w4, w5⟩ := giveMat (by omega) hbs hA.sq hfa
      have hxn : x.n = g.n := by
        have := w4
        simp only [Lb.val, Value.slice.injEq] at this
        exact this.2.1
      exact ⟨_, _, w1, w2, rfl, x, w4.symm, w3, hxn, by rw [w5]; exact hA⟩
end Go.V

/-
  Plain: the document's table is the program's marks.
-/
set_option linter.unusedVariables false
set_option linter.unusedSimpArgs false
namespace Go.V
open Go Go.Proofs

theorem pickL_mem {p : Nat → Bool} {n k : Nat} : (k : Int) ∈ pickL p n ↔ k < n ∧ p k = true := by
  unfold pickL
  simp only [List.mem_map, List.mem_filter, List.mem_range]
  constructor
  · rintro ⟨j, ⟨h1, h2⟩, h3⟩
    have : j = k := by omega
    subst this
    exact ⟨h1, h2⟩
  · rintro ⟨h1, h2⟩
    exact ⟨k, ⟨h1, h2⟩, rfl⟩
theorem callsL_at {deb : List Int} {g : Gr} (hn : g.ds.length = g.n) (hm : mayG deb g = 0) {a : Nat} (ha : a < g.n) : (callsL g).getD a [] = pickL (callR g a) g.n := by
  have ha' : a < g.ds.length := by omega
  rw [← calledL_eq hn hm ha']
  simp [callsL, List.getD_eq_getElem?_getD, ha']
theorem callsL_mem {deb : List Int} {g : Gr} (hn : g.ds.length = g.n) (hm : mayG deb g = 0) {a k : Nat} (ha : a < g.n) : (k : Int) ∈ (callsL g).getD a [] ↔ k < g.n ∧ callR g a k = true := by
  rw [callsL_at hn hm ha, pickL_mem]
theorem Comes.trans2 {L : List (List Int)} {i j k : Nat} (h1 : Comes L i j) (h2 : Comes L j k) : Comes L i k := by
  induction h2 with
  | self => exact h1
  | next _ hk ih => exact .next ih hk
theorem PV.comes {deb : List Int} {g : Gr} (hn : g.ds.length = g.n) (hm : mayG deb g = 0) : ∀ {m i k : Nat}, m ≤ g.n → i < g.n → k < g.n → PV g m i k → Comes (callsL g) i k
  | 0, i, k, _, hi, hk, h => by
    have h : baseR g i k = true := h
    unfold baseR at h
    simp only [Bool.or_eq_true, decide_eq_true_eq] at h
    rcases h with rfl | h
    · exact .self
    · exact .next .self ((callsL_mem hn hm hi).2 ⟨hk, h⟩)
  | m + 1, i, k, hmn, hi, hk, h => by
    rcases h with h | ⟨h1, h2⟩
    · exact PV.comes hn hm (by omega) hi hk h
    · exact (PV.comes hn hm (by omega) hi (by omega) h1).trans2 (PV.comes hn hm (by omega) (by omega) hk h2)
theorem comes_PV {deb : List Int} {g : Gr} (hn : g.ds.length = g.n) (hm : mayG deb g = 0) {i k : Nat} (hi : i < g.n) (h : Comes (callsL g) i k) : k < g.n ∧ PV g g.n i k := by
  induction h with
  | self => exact ⟨hi, PV.base (by simp [baseR]) _⟩
  | next _ hk ih =>
    obtain ⟨ha, hp⟩ := ih
    obtain ⟨h1, h2⟩ := (callsL_mem hn hm ha).1 hk
    exact ⟨h1, PV.trans hp (PV.base (by simp [baseR, h2]) _) ha⟩
/-- The document's table and the program's marks. -/
theorem table_eq {deb : List Int} {g : Gr} (hn : g.ds.length = g.n) (hm : mayG deb g = 0) {R : List (List Bool)} (h : RoundInv g g.n R) : R = matOf (callsL g) := by
  have hl : (callsL g).length = g.n := callsL_len hn
  apply List.ext_getElem
  · rw [h.sq.len, matOf, List.length_map, List.length_range, hl]
  · intro i h1 h2
    have hi : i < g.n := by rw [h.sq.len] at h1; exact h1
    have hf := fromL_ok (L := callsL g) (callsL_valid hn) (i := i) (by omega)
    simp only [matOf, List.getElem_map, List.getElem_range]
    apply List.ext_getElem
    · rw [h.sq.row i h1, hf.len, hl]
    · intro k h3 h4
      have hk : k < g.n := by rw [h.sq.row i h1] at h3; exact h3
      rw [at2_eq h.sq h1 h3, Bool.eq_iff_iff]
      have e : (fromL (callsL g) i)[k] = true ↔ isM (fromL (callsL g) i) k := by simp [isM, List.getD_eq_getElem?_getD, h4]
      rw [e, hf.iff]
      constructor
      · intro ha
        exact PV.comes hn hm (Nat.le_refl _) hi hk (h.sound i k ha)
      · intro hc
        exact h.comp i k hi hk (comes_PV hn hm hi hc).2
end Go.V

/-
  Walk: bonsairef12.From.
-/
set_option linter.unusedVariables false
set_option linter.unusedSimpArgs false
namespace Go.V
open Go Go.Proofs

theorem Lb.cell {I : GH} {x : Lb} {n : Nat} {R : List (List Bool)} (hx : x.ok I) (hxn : x.n = n) (hR : x.rows.map (·.l) = R) (hs : Sq n R) {i : Nat} (hi : i < n) :
    ∃ (ai : Addr) (r : Rb), x.a = some ai ∧ (∀ M, Rd I M (ai.add (i * 1)) 1 [r.val]) ∧ r.n = n ∧ ∀ k, k < n → ∃ ci, r.a = some ci ∧ ∀ M, Rd I M (ci.add (k * 1)) 1 [.bool (at2 R i k)] := by
  have hl : x.rows.length = n := by
    have := congrArg List.length hR
    rw [List.length_map, hs.len] at this
    exact this
  have hil : i < x.rows.length := by omega
  obtain ⟨ai, hai, hri⟩ := hx.rs.one (j := i) (by omega) (by simpa using hil)
  have hok := hx.rows _ (List.getElem_mem hil)
  have hiR : i < R.length := by rw [hs.len]; exact hi
  have hrl : (x.rows[i]).l = R[i] := by
    have : (x.rows.map (·.l))[i]'(by simpa using hil) = R[i] := by simp only [hR]
    simpa using this
  have hrn : (x.rows[i]).n = n := by rw [← hok.n, hrl, hs.row i hiR]
  refine ⟨ai, x.rows[i], hai, hri, hrn, fun k hk => ?_⟩
  have hkl : k < (x.rows[i]).l.length := by rw [hrl, hs.row i hiR]; exact hk
  obtain ⟨ci, hci, hrc⟩ := hok.rs.one (j := k) (by omega) hkl
  refine ⟨ci, hci, fun M => ?_⟩
  have e : (x.rows[i]).l[k] = at2 R i k := by
    rw [← at2_eq hs hiR (by rw [hs.row i hiR]; exact hk)]
    simp [hrl]
  rw [← e]
  exact hrc M
theorem listL_pick2 (wh : Bool) (s : List Bool) : listL wh 0 s = pickL (fun k => s.getD k false == wh) s.length := by
  have : ∀ n, n ≤ s.length → listL wh 0 (s.take n) = pickL (fun k => s.getD k false == wh) n := by
    intro n
    induction n with
    | zero => intro _; rfl
    | succ n ih =>
      intro hn
      have hn' : n < s.length := by omega
      rw [List.take_succ_eq_append_getElem hn', listL_snoc, ih (by omega), pickL_succ, List.length_take_of_le (by omega), Nat.zero_add]
      have e : s.getD n false = s[n] := by simp [List.getD_eq_getElem?_getD, hn']
      rw [e]
  have h := this s.length (Nat.le_refl _)
  rwa [List.take_of_length_le (Nat.le_refl _)] at h
/-- A row of the table, listed. -/
theorem row_pick {deb : List Int} {g : Gr} (hn : g.ds.length = g.n) (hm : mayG deb g = 0) (wh : Bool) {i : Nat} (hi : i < g.n) : listL wh 0 (fromL (callsL g) i) = pickL (fun k => at2 (matOf (callsL g)) i k == wh) g.n := by
  have hl : (callsL g).length = g.n := callsL_len hn
  have hf := from_len (callsL_valid hn) (i := i) (by omega)
  rw [listL_pick2, hf, hl]
  apply pickL_congr
  intro k hk
  simp [at2, matOf, List.getD_eq_getElem?_getD, hl, hi]

set_option maxRecDepth 100000 in
set_option maxHeartbeats 2000000 in
theorem RFrom_spec {I : GH} {deb : List Int} (hcl : ClsOk deb) {g : Gr} (hg : g.ok I) (hf : GFit g) (i : Int) : Spec Tryz.prog 14 [g.val, .int .i64 i] I [] fun v I' M' => (∀ b o, I b = some o → I' b = some o) ∧ ∃ os : OS, v = os.val ∧ os.ok 1 ((fromG deb g i).map (.int .i64 ·)) ∧ M' = os.blk 3 := by
  refine spec_of_V [] TryzEOK Tryz.func14 rfl rfl rfl ?_
  intro B h0
  have hfn := hf.n
  have hgn := hg.n
  refine CallOb.mk [] [] _ (.refl _) (Rthere_spec hcl hg hf i) ?_
  rintro v J N - ⟨rfl, hJ, rfl⟩
  subst J
  refine CondOb.mk (fun h => ?_) (fun h => ?_)
  · have ht : thereR deb g i = false := by simpa using h
    have e : fromG deb g i = [] := by unfold fromG; show (bif thereR deb g i then _ else _) = _; rw [ht]; rfl
    exact ⟨_, _, .refl, fun _ _ h => h, OS0, rfl, by rw [e]; exact OS0_ok 1, rfl⟩
  have ht : thereR deb g i = true := by simpa using h
  obtain ⟨hi0, hin⟩ := there_in ht
  have hm : mayG deb g = 0 := by unfold thereR at ht; simp at ht; exact ht.2
  obtain ⟨i, rfl⟩ := Int.eq_ofNat_of_zero_le hi0
  simp only [Int.toNat_natCast] at hin
  have hcr : fromG deb g (i : Nat) = pickL (fun k => at2 (matOf (callsL g)) i k == true) g.n := by
    unfold fromG
    show (bif thereR deb g (i : Nat) then _ else _) = _
    rw [ht, cond_true, Int.toNat_natCast, row_pick hgn hm true hin]
  rw [hcr]
  refine CallOb.mk [] [] _ (.refl _) (Rtable_spec hg hfn) ?_
  rintro v I1 M1 - ⟨hI1, rfl, x, rfl, hx, hxn, hri⟩
  have hsq := hri.sq
  have hR := table_eq hgn hm hri
  rw [hR] at hsq
  generalize matOf (callsL g) = R at *
  obtain ⟨ai, r, hai, hrd, hrn, hrk⟩ := Lb.cell hx hxn hR hsq hin
  generalize hp : (fun k => at2 R i k == true) = p
  have hpk : ∀ k, at2 R i k = p k := fun k => by rw [← hp]; simp
  refine LoopOb.inv (ι := Nat × OS) (fun y => { fl := [(1, .val (.int .i64 i)), (2, .ref 2 0), (5, .val x.val), (6, .val y.2.val), (7, .val (.int .i64 y.1))], cl := [(2, [.slice g.a g.n g.c])], gi := I1, mi := y.2.blk 3 }) (fun y => y.1 ≤ g.n ∧ y.2.ok 1 ((pickL p y.1).map (.int .i64 ·))) (fun y => g.n - y.1) ?_ ?_
  · exact ⟨(0, OS0), ⟨Nat.zero_le _, OS0_ok 1⟩, .refl, .cons .refl (.cons .refl (.cons .refl (.cons .refl (.cons .refl .nil)))), .cons rfl .nil⟩
  rintro ⟨k, os⟩ ⟨hk, hos⟩
  simp only at hk hos
  have hol := hos.len1
  have hll := pickL_len p k
  have hsn := pickL_succ p k
  refine CondOb.mk (fun h => ?_) (fun h => ?_)
  · have hlt : k < g.n := by simpa using h
    obtain ⟨ci, hci, hrc⟩ := hrk k hlt
    rw [hpk] at hrc
    refine IdxOb.mk ai i hai rfl (by omega) ?_
    refine LoadOb.mk _ (hrd _) ?_
    refine IdxOb.mk ci k hci rfl (by omega) ?_
    refine LoadOb.mk _ (hrc _) ?_
    refine CondOb.mk (fun h2 => ?_) (fun h2 => ?_)
    · rw [h2, cond_true] at hsn
      refine AllocOb.mk fun b9 hb9 hbM9 => ?_
      refine OtherOb.appendN TryzEOK rfl (by simp) (e := 3) rfl rfl rfl os hos rfl (m := 1) rfl (news := [.int .i64 k]) (by decide) (blk_rd (b := b9) (cs := [.int .i64 k]) (k := 0) (n := 1) (T := 3) (.head _) (by simp)) rfl (Mr := [⟨b9, .cells #[.int .i64 k] 3 (0, 0)⟩]) (List.perm_append_comm (l₁ := [_])) (by simp only [maxLen]; omega) (by show (os.n + 1) * 8 ≤ _; omega) ?_
      intro g' c' cur' q0 q1 q2 q3 q4
      refine ArithOb.mk _ (next_wr (i := k) (by omega)) ?_
      refine ⟨(k + 1, ⟨some g', os.n + 1, c', cur'⟩), ⟨⟨by simp only; omega, ?_⟩, by simp only; omega⟩, .sub (List.Sublist.cons_cons _ (List.nil_sublist _)) .refl, .cons .refl (.cons .refl (.cons .refl (.cons .refl (.cons .refl .nil)))), .cons rfl .nil⟩
      simp only
      rw [hsn, List.map_append]
      exact app1_ok hos q1 q2 q3 q4
    · rw [h2, cond_false, List.append_nil] at hsn
      refine ArithOb.mk _ (next_wr (i := k) (by omega)) ?_
      refine ⟨(k + 1, os), ⟨⟨by simp only; omega, ?_⟩, by simp only; omega⟩, .refl, .cons .refl (.cons .refl (.cons .refl (.cons .refl (.cons .refl .nil)))), .cons rfl .nil⟩
      simp only
      rw [hsn]
      exact hos
  · have hke : k = g.n := by simp at h; omega
    subst hke
    exact ⟨_, _, .refl, hI1, os, rfl, hos, rfl⟩
end Go.V

/-
  Walks: bonsairef12.Useless, Self.
-/
set_option linter.unusedVariables false
set_option linter.unusedSimpArgs false
namespace Go.V
open Go Go.Proofs

theorem there0 (deb : List Int) (g : Gr) : thereR deb g 0 = (decide (mayG deb g = 0) && !decide ((g.n : Int) = 0)) := by
  unfold thereR inR
  have e1 : decide ((0 : Int) < 0) = false := by decide
  have e2 : decide ((g.n : Int) ≤ 0) = decide ((g.n : Int) = 0) := decide_eq_decide.2 (by omega)
  rw [e1, e2, Bool.not_false, Bool.true_and, Bool.and_comm]
set_option maxRecDepth 100000 in
set_option maxHeartbeats 2000000 in
theorem RUseless_spec {I : GH} {deb : List Int} (hcl : ClsOk deb) {g : Gr} (hg : g.ok I) (hf : GFit g) : Spec Tryz.prog 15 [g.val] I [] fun v I' M' => (∀ b o, I b = some o → I' b = some o) ∧ ∃ os : OS, v = os.val ∧ os.ok 1 ((uselessG deb g).map (.int .i64 ·)) ∧ M' = os.blk 3 := by
  refine spec_of_V [] TryzEOK Tryz.func15 rfl rfl rfl ?_
  intro B h0
  have hfn := hf.n
  have hgn := hg.n
  refine CallOb.mk [] [] _ (.refl _) (Rthere_spec hcl hg hf 0) ?_
  rintro v J N - ⟨rfl, hJ, rfl⟩
  subst J
  refine CondOb.mk (fun h => ?_) (fun h => ?_)
  · have ht : thereR deb g 0 = false := by simpa using h
    have e : uselessG deb g = [] := by unfold uselessG; rw [← there0, ht]; rfl
    exact ⟨_, _, .refl, fun _ _ h => h, OS0, rfl, by rw [e]; exact OS0_ok 1, rfl⟩
  have ht : thereR deb g 0 = true := by simpa using h
  obtain ⟨hi0, hin⟩ := there_in ht
  have hm : mayG deb g = 0 := by unfold thereR at ht; simp at ht; exact ht.2
  have hin : 0 < g.n := hin
  have hcr : uselessG deb g = pickL (fun k => at2 (matOf (callsL g)) 0 k == false) g.n := by
    unfold uselessG
    rw [← there0, ht, cond_true, row_pick hgn hm false hin]
  rw [hcr]
  refine CallOb.mk [] [] _ (.refl _) (Rtable_spec hg hfn) ?_
  rintro v I1 M1 - ⟨hI1, rfl, x, rfl, hx, hxn, hri⟩
  have hsq := hri.sq
  have hR := table_eq hgn hm hri
  rw [hR] at hsq
  generalize matOf (callsL g) = R at *
  obtain ⟨ai, r, hai, hrd, hrn, hrk⟩ := Lb.cell hx hxn hR hsq hin
  generalize hp : (fun k => at2 R 0 k == false) = p
  have hpk : ∀ k, (!at2 R 0 k) = p k := fun k => by rw [← hp]; simp
  refine LoopOb.inv (ι := Nat × OS) (fun y => { fl := [(1, .ref 1 0), (3, .val x.val), (4, .val y.2.val), (5, .val (.int .i64 y.1))], cl := [(1, [.slice g.a g.n g.c])], gi := I1, mi := y.2.blk 3 }) (fun y => y.1 ≤ g.n ∧ y.2.ok 1 ((pickL p y.1).map (.int .i64 ·))) (fun y => g.n - y.1) ?_ ?_
  · exact ⟨(0, OS0), ⟨Nat.zero_le _, OS0_ok 1⟩, .refl, .cons .refl (.cons .refl (.cons .refl (.cons .refl .nil))), .cons rfl .nil⟩
  rintro ⟨k, os⟩ ⟨hk, hos⟩
  simp only at hk hos
  have hol := hos.len1
  have hll := pickL_len p k
  have hsn := pickL_succ p k
  refine CondOb.mk (fun h => ?_) (fun h => ?_)
  · have hlt : k < g.n := by simpa using h
    obtain ⟨ci, hci, hrc⟩ := hrk k hlt
    refine IdxOb.mk ai 0 hai rfl (by omega) ?_
    refine LoadOb.mk _ (hrd _) ?_
    refine IdxOb.mk ci k hci rfl (by omega) ?_
    refine LoadOb.mk _ (hrc _) ?_
    refine CondOb.mk (fun h2 => ?_) (fun h2 => ?_)
    · rw [hpk] at h2
      rw [h2, cond_true] at hsn
      refine AllocOb.mk fun b9 hb9 hbM9 => ?_
      refine OtherOb.appendN TryzEOK rfl (by simp) (e := 3) rfl rfl rfl os hos rfl (m := 1) rfl (news := [.int .i64 k]) (by decide) (blk_rd (b := b9) (cs := [.int .i64 k]) (k := 0) (n := 1) (T := 3) (.head _) (by simp)) rfl (Mr := [⟨b9, .cells #[.int .i64 k] 3 (0, 0)⟩]) (List.perm_append_comm (l₁ := [_])) (by simp only [maxLen]; omega) (by show (os.n + 1) * 8 ≤ _; omega) ?_
      intro g' c' cur' q0 q1 q2 q3 q4
      refine ArithOb.mk _ (next_wr (i := k) (by omega)) ?_
      refine ⟨(k + 1, ⟨some g', os.n + 1, c', cur'⟩), ⟨⟨by simp only; omega, ?_⟩, by simp only; omega⟩, .sub (List.Sublist.cons_cons _ (List.nil_sublist _)) .refl, .cons .refl (.cons .refl (.cons .refl (.cons .refl .nil))), .cons rfl .nil⟩
      simp only
      rw [hsn, List.map_append]
      exact app1_ok hos q1 q2 q3 q4
    · rw [hpk] at h2
      rw [h2, cond_false, List.append_nil] at hsn
      refine ArithOb.mk _ (next_wr (i := k) (by omega)) ?_
      refine ⟨(k + 1, os), ⟨⟨by simp only; omega, ?_⟩, by simp only; omega⟩, .refl, .cons .refl (.cons .refl (.cons .refl (.cons .refl .nil))), .cons rfl .nil⟩
      simp only
      rw [hsn]
      exact hos
  · have hke : k = g.n := by simp at h; omega
    subst hke
    exact ⟨_, _, .refl, hI1, os, rfl, hos, rfl⟩

theorem self_pick {deb : List Int} {g : Gr} (hn : g.ds.length = g.n) (hm : mayG deb g = 0) {i : Nat} (hi : i < g.n) : selfG deb g i = (List.range g.n).any fun k => callR g i k && at2 (matOf (callsL g)) k i := by
  have hl : (callsL g).length = g.n := callsL_len hn
  have hin : inR (i : Int) g.n = true := by
    unfold inR
    simp
    omega
  unfold selfG
  rw [hin, decide_eq_true hm, Bool.and_self, cond_true, Int.toNat_natCast, callsL_at hn hm hi]
  unfold pickL
  rw [List.any_map, List.any_filter, Bool.eq_iff_iff, List.any_eq_true, List.any_eq_true]
  constructor
  · rintro ⟨k, hk, hp⟩
    have hkn := List.mem_range.1 hk
    refine ⟨k, hk, ?_⟩
    simpa [at2, matOf, List.getD_eq_getElem?_getD, hl, hkn] using hp
  · rintro ⟨k, hk, hp⟩
    have hkn := List.mem_range.1 hk
    refine ⟨k, hk, ?_⟩
    simpa [at2, matOf, List.getD_eq_getElem?_getD, hl, hkn] using hp
theorem any_drop_lt {n i : Nat} (p : Nat → Bool) (h : i < n) : ((List.range n).drop i).any p = (p i || ((List.range n).drop (i + 1)).any p) := by
  rw [List.drop_eq_getElem_cons (by simpa using h), List.any_cons]
  simp
set_option maxRecDepth 100000 in
set_option maxHeartbeats 2000000 in
theorem RSelf_spec {I : GH} {deb : List Int} (hcl : ClsOk deb) {g : Gr} (hg : g.ok I) (hf : GFit g) (i : Int) : Spec Tryz.prog 17 [g.val, .int .i64 i] I [] fun v I' M' => v = .bool (selfG deb g i) ∧ (∀ b o, I b = some o → I' b = some o) ∧ M' = [] := by
  refine spec_of_V [] TryzEOK Tryz.func17 rfl rfl rfl ?_
  intro B h0
  have hfn := hf.n
  have hgn := hg.n
  refine CallOb.mk [] [] _ (.refl _) (Rthere_spec hcl hg hf i) ?_
  rintro v J N - ⟨rfl, hJ, rfl⟩
  subst J
  refine CondOb.mk (fun h => ?_) (fun h => ?_)
  · have ht : thereR deb g i = false := by simpa using h
    have e : selfG deb g i = false := by unfold selfG; show (bif thereR deb g i then _ else _) = _; rw [ht]; rfl
    exact ⟨_, _, .refl, by rw [e], fun _ _ h => h, rfl⟩
  have ht : thereR deb g i = true := by simpa using h
  obtain ⟨hi0, hin⟩ := there_in ht
  have hm : mayG deb g = 0 := by unfold thereR at ht; simp at ht; exact ht.2
  obtain ⟨i, rfl⟩ := Int.eq_ofNat_of_zero_le hi0
  simp only [Int.toNat_natCast] at hin
  have hcr := self_pick hgn hm hin
  refine CallOb.mk [] [] _ (.refl _) (Rtable_spec hg hfn) ?_
  rintro v I1 M1 - ⟨hI1, rfl, x, rfl, hx, hxn, hri⟩
  have hsq := hri.sq
  have hR := table_eq hgn hm hri
  rw [hR] at hsq
  generalize matOf (callsL g) = R at *
  have hg1 := hg.mono hI1
  refine LoopOb.inv (ι := Nat) (fun y => { fl := [(1, .val (.int .i64 i)), (2, .ref 2 0), (5, .val x.val), (6, .val (.int .i64 y))], cl := [(2, [.slice g.a g.n g.c])], gi := I1 }) (fun y => y ≤ g.n ∧ selfG deb g (i : Nat) = ((List.range g.n).drop y).any fun k => callR g i k && at2 R k i) (fun y => g.n - y) ?_ ?_
  · exact ⟨0, ⟨Nat.zero_le _, hcr⟩, .refl, .cons .refl (.cons .refl (.cons .refl (.cons .refl .nil))), .cons rfl .nil⟩
  rintro k ⟨hk, hs⟩
  refine CondOb.mk (fun h => ?_) (fun h => ?_)
  · have hlt : k < g.n := by simpa using h
    obtain ⟨ai, r, hai, hrd, hrn, hrk⟩ := Lb.cell hx hxn hR hsq hlt
    obtain ⟨ci, hci, hrc⟩ := hrk i hin
    rw [any_drop_lt _ hlt] at hs
    refine CallOb.mk [] [] _ (.refl _) (Rcalls_spec hg1 hin hlt) ?_
    rintro v J N - ⟨rfl, hJ, rfl⟩
    subst J
    refine GuardOb.mk (fun c1 => ?_) (fun c1 => ?_)
    · refine IdxOb.mk ai k hai rfl (by omega) ?_
      refine LoadOb.mk _ (hrd _) ?_
      refine IdxOb.mk ci i hci rfl (by omega) ?_
      refine LoadOb.mk _ (hrc _) ?_
      refine CondOb.mk (fun c2 => ?_) (fun c2 => ?_)
      · exact ⟨_, _, .refl, by rw [hs, c1, c2]; rfl, hI1, rfl⟩
      · refine ArithOb.mk _ (next_wr (i := k) (by omega)) ?_
        refine ⟨k + 1, ⟨⟨hlt, ?_⟩, by omega⟩, .refl, .cons .refl (.cons .refl (.cons .refl (.cons .refl .nil))), .cons rfl .nil⟩
        rw [hs, c1, c2]
        rfl
    · have c1' : callR g i k = false := c1
      refine ArithOb.mk _ (next_wr (i := k) (by omega)) ?_
      refine ⟨k + 1, ⟨⟨hlt, ?_⟩, by omega⟩, .refl, .cons .refl (.cons .refl (.cons .refl (.cons .refl .nil))), .cons rfl .nil⟩
      rw [hs, c1']
      rfl
  · have hke : k = g.n := by simp at h; omega
    rw [List.drop_of_length_le (by simp; omega)] at hs
    exact ⟨_, _, .refl, by rw [hs]; rfl, hI1, rfl⟩
end Go.V

/-
  Walks: reach.list, called, Calls, From: what is told is the caller's own.
-/
set_option linter.unusedVariables false
set_option linter.unusedSimpArgs false
namespace Go.V
open Go Go.Proofs

set_option maxHeartbeats 1000000 in
theorem list_own {I : GH} {r : Rb} (hr : r.ok I) (hn : r.n ≤ 1099511627776) (wh : Bool) : Spec Tryz.prog 36 [r.val, .bool wh] I [] fun v I' M' => (∀ b o, I b = some o → I' b = some o) ∧ ∃ os : OS, v = os.val ∧ os.ok 1 ((listL wh 0 r.l).map (.int .i64 ·)) ∧ M' = os.blk 3 := by
  refine spec_of_V [] TryzEOK Tryz.func36 rfl rfl rfl ?_
  intro B h0
  have hrn := hr.n
  refine LoopOb.inv (ι := Nat × OS) (fun x => { fl := [(1, .val (.bool wh)), (5, .val x.2.val), (8, .val r.val), (9, .val (.int .i64 r.n)), (10, .val (.int .i64 x.1))], gi := I, mi := x.2.blk 3 })
    (fun x => x.1 ≤ r.n ∧ x.2.ok 1 ((listL wh 0 (r.l.take x.1)).map (.int .i64 ·)) ∧ ∀ g, x.2.a = some g → I g = none) (fun x => r.n - x.1) ?_ ?_
  · exact ⟨(0, OS0), ⟨by simp, OS0_ok 1, fun g h => by cases h⟩, .refl, .cons .refl (.cons .refl (.cons .refl (.cons .refl (.cons .refl .nil)))), .nil⟩
  · rintro ⟨i, os⟩ ⟨hi, hos, hI⟩
    simp only at hi hos hI
    have hol := hos.len1
    have hll := listL_len wh (r.l.take i) 0
    have htl := List.length_take_le i r.l
    refine CondOb.mk (fun h => ?_) (fun h => ?_)
    · have hlt : i < r.n := by simpa using h
      have hlt' : i < r.l.length := by omega
      obtain ⟨ad, had, hrd⟩ := hr.rs.one hlt hlt'
      have hsn := listL_snoc wh r.l[i] (r.l.take i) 0
      rw [← List.take_succ_eq_append_getElem hlt', List.length_take_of_le (by omega), Nat.zero_add] at hsn
      refine IdxOb.mk ad i had rfl hlt ?_
      refine LoadOb.mk _ (hrd _) ?_
      refine CondOb.mk (fun h2 => ?_) (fun h2 => ?_)
      · rw [h2, cond_true] at hsn
        refine AllocOb.mk fun b9 hb9 hbM9 => ?_
        refine OtherOb.appendN TryzEOK rfl (by simp) (e := 3) rfl rfl rfl os hos rfl (m := 1) rfl (news := [.int .i64 i]) (by decide) (blk_rd (b := b9) (cs := [.int .i64 i]) (k := 0) (n := 1) (T := 3) (.head _) (by simp)) rfl (Mr := [⟨b9, .cells #[.int .i64 i] 3 (0, 0)⟩]) (List.perm_append_comm (l₁ := [_])) (by simp only [maxLen]; omega) (by show (os.n + 1) * 8 ≤ _; omega) ?_
        intro g' c' cur' q0 q1 q2 q3 q4
        refine ArithOb.mk _ (next_wr (i := i) (by omega)) ?_
        refine ⟨(i + 1, ⟨some g', os.n + 1, c', cur'⟩), ⟨⟨by simp only; omega, ?_, fun g hg => by cases hg; exact q0⟩, by simp only; omega⟩, .sub (List.Sublist.cons_cons _ (List.nil_sublist _)) .refl, .cons .refl (.cons .refl (.cons .refl (.cons .refl (.cons .refl .nil)))), .nil⟩
        simp only
        rw [hsn, List.map_append]
        exact app1_ok hos q1 q2 q3 q4
      · rw [h2, cond_false, List.append_nil] at hsn
        refine ArithOb.mk _ (next_wr (i := i) (by omega)) ?_
        refine ⟨(i + 1, os), ⟨⟨by simp only; omega, ?_, hI⟩, by simp only; omega⟩, .refl, .cons .refl (.cons .refl (.cons .refl (.cons .refl (.cons .refl .nil)))), .nil⟩
        simp only
        rw [hsn]
        exact hos
    · have hge : r.n ≤ i := by simpa using h
      rw [List.take_of_length_le (by omega)] at hos hll hol
      exact ⟨_, _, .refl, fun _ _ h => h, os, rfl, hos, rfl⟩

set_option maxHeartbeats 2000000 in
theorem called_own {I : GH} {g : Gr} (hg : g.ok I) (hn : g.n ≤ 1099511627776) {t : Tr} (ht : t.ok I) : Spec Tryz.prog 34 [g.val, t.val] I [] fun v I' M' => (∀ b o, I b = some o → I' b = some o) ∧ ∃ os : OS, v = os.val ∧ os.ok 1 ((calledL g t).map (.int .i64 ·)) ∧ M' = os.blk 3 := by
  refine spec_of_V [2, 5] TryzEOK Tryz.func34 rfl rfl rfl ?_
  intro B h0
  have hgn := hg.n
  refine AllocOb.mk fun b2 hb2 hbM2 => ?_
  refine LoadOb.mk [.slice g.a g.n g.c] (blk_rd (b := b2) (cs := [.slice g.a g.n g.c]) (k := 0) (n := 1) (T := 24) (.head _) (by simp)) ?_
  refine MakeOb.mk g.n g.n rfl rfl (Nat.le_refl _) (by show 1 * g.n ≤ _; omega) (by omega) ?_
  refine AllocOb.mk fun b hb hbM => ?_
  refine AllocOb.mk fun b5 hb5 hbM5 => ?_
  refine StoreOb.mk [] [⟨b, .cells (rowOf [.bool false] (g.n * 1)).toArray 4 (0, 0)⟩, ⟨b2, .cells #[.slice g.a g.n g.c] 24 (0, 0)⟩] _ _ rfl rfl (Nat.le_of_ble_eq_true rfl) rfl ?_
  refine CallOb.mk [] [⟨b5, .cells #[.slice (some ⟨b, 0, none⟩) g.n g.n] 74 (0, 0)⟩, ⟨b, .cells (rowOf [.bool false] (g.n * 1)).toArray 4 (0, 0)⟩, ⟨b2, .cells #[.slice g.a g.n g.c] 24 (0, 0)⟩] _ (.refl _) (named_spec t) ?_
  rintro v I1 M1 - ⟨tb, rfl, htb, hI1, rfl⟩
  have hg1 := hg.mono hI1
  have ht1 := ht.mono hI1
  refine CodeOb.range TryzEOK rfl rfl rfl .refl (named1_iter ht1 htb) (fun vs h => ?_)
    (fun k I' M' => (∀ b o, I1 b = some o → I' b = some o) ∧ M' = [⟨b5, .cells #[.slice (some ⟨b, 0, none⟩) g.n g.n] 74 (0, 0)⟩, boolRow b (thereL g.ds g.n ((namedL t.ns).take k)), ⟨b2, .cells #[.slice g.a g.n g.c] 24 (0, 0)⟩])
    (fun _ _ _ => False) ⟨fun _ _ h => h, ?_⟩ ?_ ?_ (fun _ _ _ _ h => h.elim)
  · obtain ⟨c, _, rfl⟩ := List.mem_map.1 h
    rfl
  · show _ :: _ :: _ = _
    rw [rowOf_one, Nat.mul_one]
    simp [boolRow, thereL]
  · rintro k hk I' M' - ⟨hI', rfl⟩ l B h0 h0'
    have hkL : k < (namedL t.ns).length := by simpa using hk
    generalize hx : (namedL t.ns)[k] = x
    have hv : ((namedL t.ns).map fun s => [Value.string s])[k] = [.string x] := by simp [hx]
    rw [hv]
    have hstep : thereL g.ds g.n ((namedL t.ns).take (k + 1)) = markK g.n (thereL g.ds g.n ((namedL t.ns).take k)) (findAt x g.ds 0) := by
      rw [List.take_succ_eq_append_getElem hkL, hx]
      simp [thereL, List.foldl_append]
    have hlen := thereL_len g.ds g.n ((namedL t.ns).take k)
    generalize hs : thereL g.ds g.n ((namedL t.ns).take k) = s at *
    rw [hstep]
    refine LoadOb.mk [.slice g.a g.n g.c] ⟨rfl, _, _, _, .inr ⟨_, .tail _ (.tail _ (.head _)), rfl, rfl⟩, rfl, rfl⟩ ?_
    refine CallOb.mk [] [⟨b5, .cells #[.slice (some ⟨b, 0, none⟩) g.n g.n] 74 (0, 0)⟩, boolRow b s, ⟨b2, .cells #[.slice g.a g.n g.c] 24 (0, 0)⟩] _ (.refl _) (Find_spec (hg1.mono hI') x) ?_
    rintro v I' M' - ⟨rfl, rfl, rfl⟩
    refine GuardOb.mk (fun h1 => ?_) (fun h1 => ?_)
    · refine LoadOb.mk [.slice (some ⟨b, 0, none⟩) g.n g.n] ⟨rfl, _, _, _, .inr ⟨_, .head _, rfl, rfl⟩, rfl, rfl⟩ ?_
      refine CondOb.mk (fun h2 => ?_) (fun h2 => ?_)
      · have hk0 : 0 ≤ findAt x g.ds 0 := by simpa using h1
        have hkn : findAt x g.ds 0 < g.n := by simpa using h2
        have hmk : markK g.n s (findAt x g.ds 0) = s.set (findAt x g.ds 0).toNat true := by
          rw [markK, h1, h2]
          rfl
        refine LoadOb.mk [.slice (some ⟨b, 0, none⟩) g.n g.n] ⟨rfl, _, _, _, .inr ⟨_, .head _, rfl, rfl⟩, rfl, rfl⟩ ?_
        refine IdxOb.mk ⟨b, 0, none⟩ (findAt x g.ds 0).toNat rfl (by omega) (by omega) ?_
        refine StoreOb.add [⟨b5, .cells #[.slice (some ⟨b, 0, none⟩) g.n g.n] 74 (0, 0)⟩] [⟨b2, .cells #[.slice g.a g.n g.c] 24 (0, 0)⟩] _ _ rfl ?_ rfl ?_
        · simp only [List.size_toArray, List.length_map]
          show 0 + (findAt x g.ds 0).toNat * 1 + 1 ≤ _
          omega
        refine ⟨_, _, .refl, hI', ?_⟩
        rw [hmk]
        have e := boolRow_set s (findAt x g.ds 0).toNat (by omega) true
        simp only [boolRow]
        rw [← e]
        simp only [Nat.zero_add, Nat.mul_one]
        rfl
      · refine ⟨_, _, .refl, hI', ?_⟩
        have : markK g.n s (findAt x g.ds 0) = s := by
          rw [markK, h1, h2]
          rfl
        rw [this]
        rfl
    · refine ⟨_, _, .refl, hI', ?_⟩
      have : markK g.n s (findAt x g.ds 0) = s := by
        rw [markK, h1]
        rfl
      rw [this]
      rfl
  · rintro I2 M2 - ⟨hI2, rfl⟩
    have hI02 : ∀ b o, I b = some o → I2 b = some o := fun b o h => hI2 _ _ (hI1 _ _ h)
    have hfull : (namedL t.ns).take ((namedL t.ns).map fun s => [Value.string s]).length = namedL t.ns := List.take_of_length_le (by simp)
    rw [hfull]
    have hsl := thereL_len g.ds g.n (namedL t.ns)
    have hcl : calledL g t = listL true 0 (thereL g.ds g.n (namedL t.ns)) := rfl
    generalize hs : thereL g.ds g.n (namedL t.ns) = s at *
    refine LoadOb.mk [.slice (some ⟨b, 0, none⟩) g.n g.n] ⟨rfl, _, _, _, .inr ⟨_, .head _, rfl, rfl⟩, rfl, rfl⟩ ?_
    refine LoopOb.inv (ι := Nat × OS) (fun x => { fl := [(8, .val x.2.val), (32, .val (.slice (some ⟨b, 0, none⟩) g.n g.n)), (33, .val (.int .i64 g.n)), (34, .val (.int .i64 x.1))], gi := I2, mi := x.2.blk 3 ++ [boolRow b s] })
      (fun x => x.1 ≤ g.n ∧ x.2.ok 1 ((listL true 0 (s.take x.1)).map (.int .i64 ·)) ∧ ∀ g, x.2.a = some g → I2 g = none) (fun x => g.n - x.1) ?_ ?_
    · exact ⟨(0, OS0), ⟨by simp, OS0_ok 1, fun g h => by cases h⟩, .sub (.cons _ (.cons_cons _ (List.nil_sublist _))) .refl, .cons .refl (.cons .refl (.cons .refl (.cons .refl .nil))), .nil⟩
    · rintro ⟨i, os⟩ ⟨hi, hos, hI⟩
      simp only at hi hos hI
      have hol := hos.len1
      have hll := listL_len true (s.take i) 0
      have htl := List.length_take_le i s
      refine CondOb.mk (fun h => ?_) (fun h => ?_)
      · have hlt : i < g.n := by simpa using h
        have hlt' : i < s.length := by omega
        have hsn := listL_snoc true s[i] (s.take i) 0
        rw [← List.take_succ_eq_append_getElem hlt', List.length_take_of_le (by omega), Nat.zero_add] at hsn
        refine IdxOb.mk ⟨b, 0, none⟩ i rfl rfl hlt ?_
        refine LoadOb.mk _ (boolRow_rd (by simp) hlt') ?_
        refine CondOb.mk (fun h2 => ?_) (fun h2 => ?_)
        · rw [h2] at hsn
          refine AllocOb.mk fun b9 hb9 hbM9 => ?_
          refine OtherOb.appendN TryzEOK rfl (by simp) (e := 3) rfl rfl rfl os hos rfl (m := 1) rfl (news := [.int .i64 i]) (by decide) (blk_rd (b := b9) (cs := [.int .i64 i]) (k := 0) (n := 1) (T := 3) (.head _) (by simp)) rfl (Mr := [boolRow b s, ⟨b9, .cells #[.int .i64 i] 3 (0, 0)⟩]) (perm4 _ _ _) (by simp only [maxLen]; omega) (by show (os.n + 1) * 8 ≤ _; omega) ?_
          intro g' c' cur' q0 q1 q2 q3 q4
          refine ArithOb.mk _ (next_wr (i := i) (by omega)) ?_
          refine ⟨(i + 1, ⟨some g', os.n + 1, c', cur'⟩), ⟨⟨by simp only; omega, ?_, fun g hg => by cases hg; exact q0⟩, by simp only; omega⟩, .sub (.cons_cons _ (.cons_cons _ (List.nil_sublist _))) .refl, .cons .refl (.cons .refl (.cons .refl (.cons .refl .nil))), .nil⟩
          simp only
          rw [hsn, List.map_append]
          exact app1_ok hos q1 q2 q3 q4
        · rw [h2] at hsn
          simp only [Bool.false_beq, Bool.not_true, cond_false, List.append_nil] at hsn
          refine ArithOb.mk _ (next_wr (i := i) (by omega)) ?_
          refine ⟨(i + 1, os), ⟨⟨by simp only; omega, ?_, hI⟩, by simp only; omega⟩, .refl, .cons .refl (.cons .refl (.cons .refl (.cons .refl .nil))), .nil⟩
          simp only
          rw [hsn]
          exact hos
      · have hge : g.n ≤ i := by simpa using h
        rw [List.take_of_length_le (by omega)] at hos hll hol
        exact ⟨_, _, .sub (List.sublist_append_left _ _) .refl, hI02, os, rfl, by rw [hcl]; exact hos, rfl⟩

theorem Calls_own {I : GH} {deb : List Int} (hT : Tabs I deb) {g : Gr} (hg : g.ok I) (hn : g.n ≤ 1099511627776) (i : Int) : Spec Tryz.prog 7 [g.val, .int .i64 i] I [] fun v I' M' => (∀ b o, I b = some o → I' b = some o) ∧ ∃ os : OS, v = os.val ∧ os.ok 1 ((callsG deb g i).map (.int .i64 ·)) ∧ M' = os.blk 3 := by
  refine spec_of_V [] TryzEOK Tryz.func7 rfl rfl rfl ?_
  intro B h0
  have hgn := hg.n
  refine GuardOb.mk (fun h1 => ?_) (fun h1 => ?_)
  · refine GuardOb.mk (fun h2 => ?_) (fun h2 => ?_)
    · have hin : inR i g.n = true := by
        have h2' : decide ((g.n : Int) ≤ i) = false := h2
        rw [inR, h1, h2']
        rfl
      refine CallOb.mk [] [] _ (.refl _) (May_spec hT hg) ?_
      rintro v I1 M1 - ⟨rfl, hI1, rfl⟩
      refine CondOb.mk (fun h3 => ?_) (fun h3 => ?_)
      · refine ⟨_, _, .refl, hI1, OS0, rfl, ?_, rfl⟩
        have h3' : decide (mayG deb g = 0) = false := by simpa using h3
        have e : callsG deb g i = [] := by rw [callsG, hin, h3']; rfl
        rw [e]
        exact OS0_ok 1
      · have hm : decide (mayG deb g = 0) = true := by simpa using h3
        have hi0 : 0 ≤ i := by simpa using h1
        have hi1 : i < g.n := by simpa using h2
        have hl' : i.toNat < g.ds.length := by omega
        have hg1 := hg.mono hI1
        obtain ⟨ad, had, hrd⟩ := hg1.rs.row Df.cells_len (j := i.toNat) (by omega) hl'
        have hdm : g.ds[i.toNat] ∈ g.ds := List.getElem_mem hl'
        refine CodeOb.draw TryzEOK rfl rfl rfl ?_
        refine IdxOb.mk ad i.toNat had (by omega) (by omega) ?_
        refine LoadOb.mk _ (Rd.part (k := 1) (m := 2) (hrd _) (by decide)) ?_
        refine CallOb.mk [] [] _ (.refl _) (called_own hg1 hn (hg1.ds _ hdm).t) ?_
        rintro v I2 M2 - ⟨hI2, os, rfl, hos, rfl⟩
        refine ⟨_, _, .sub (by simp) .refl, fun b o h => hI2 _ _ (hI1 _ _ h), os, rfl, ?_, rfl⟩
        have e : callsG deb g i = calledL g (g.ds[i.toNat]).t := by
          rw [callsG, hin, hm]
          simp [callsL, List.getD_eq_getElem?_getD, hl']
        rw [e]
        exact hos
    · refine ⟨_, _, .refl, fun _ _ h => h, OS0, rfl, ?_, rfl⟩
      have h2' : decide ((g.n : Int) ≤ i) = true := h2
      have e : callsG deb g i = [] := by rw [callsG, inR, h1, h2']; rfl
      rw [e]
      exact OS0_ok 1
  · refine ⟨_, _, .refl, fun _ _ h => h, OS0, rfl, ?_, rfl⟩
    have e : callsG deb g i = [] := by rw [callsG, inR, h1]; rfl
    rw [e]
    exact OS0_ok 1

theorem From_own {I : GH} {deb : List Int} (hT : Tabs I deb) {g : Gr} (hg : g.ok I) (hn : g.n ≤ 1099511627776) (i : Int) : Spec Tryz.prog 8 [g.val, .int .i64 i] I [] fun v I' M' => (∀ b o, I b = some o → I' b = some o) ∧ ∃ os : OS, v = os.val ∧ os.ok 1 ((fromG deb g i).map (.int .i64 ·)) ∧ M' = os.blk 3 := by
  refine spec_of_V [] TryzEOK Tryz.func8 rfl rfl rfl ?_
  intro B h0
  have hgn := hg.n
  refine CallOb.mk [] [] _ (.refl _) (calls_spec hT hg hn) ?_
  rintro v I1 M1 - ⟨hI1, rfl, ⟨hm, rfl⟩ | ⟨hm, x, rfl, hx, hxl⟩⟩
  · refine GuardOb.mk (fun h => by cases h) (fun _ => ?_)
    refine ⟨_, _, .refl, hI1, OS0, rfl, ?_, rfl⟩
    have h3' : decide (mayG deb g = 0) = false := by simpa using hm
    have e : fromG deb g i = [] := by rw [fromG, h3', Bool.and_false]; rfl
    rw [e]
    exact OS0_ok 1
  · have h3' : decide (mayG deb g = 0) = true := by simpa using hm
    have hxn : x.n = g.n := by
      have h1 := hx.n
      have h2 := congrArg List.length hxl
      simp only [Ls.ll, List.length_map, callsL] at h2
      omega
    have hv : ∀ l ∈ x.ll, valid x.ll.length l := by rw [hxl]; exact callsL_valid hgn
    refine GuardOb.mk (fun _ => ?_) (fun h => by cases h)
    refine GuardOb.mk (fun h1 => ?_) (fun h1 => ?_)
    · refine CondOb.mk (fun h2 => ?_) (fun h2 => ?_)
      · refine ⟨_, _, .refl, hI1, OS0, rfl, ?_, rfl⟩
        have h2' : decide ((g.n : Int) ≤ i) = true := by rw [← hxn]; exact h2
        have e : fromG deb g i = [] := by rw [fromG, inR, h1, h2']; rfl
        rw [e]
        exact OS0_ok 1
      · have h2' : decide ((g.n : Int) ≤ i) = false := by rw [← hxn]; exact h2
        have hi0 : 0 ≤ i := by simpa using h1
        have hi1 : i < g.n := by simpa using h2'
        obtain ⟨j, rfl⟩ := Int.eq_ofNat_of_zero_le hi0
        refine CallOb.mk [] [] _ (.refl _) (from_spec hx (by omega) hv (i := j) (by omega)) ?_
        rintro v I2 M2 - ⟨hI2, r, rfl, hr, hrl, rfl⟩
        have hrn : r.n = g.n := by
          have h1 := hr.n
          rw [hrl, from_len hv (by rw [hxl, callsL_len hgn]; omega), hxl, callsL_len hgn] at h1
          exact h1.symm
        refine CallOb.mk [] [] _ (.refl _) (list_own hr (by omega) true) ?_
        rintro v I3 M3 - ⟨hI3, os, rfl, hos, rfl⟩
        refine ⟨_, _, .sub (by simp) .refl, fun b o h => hI3 _ _ (hI2 _ _ (hI1 _ _ h)), os, rfl, ?_, rfl⟩
        have e : fromG deb g (j : Nat) = listL true 0 r.l := by
          rw [fromG, inR, h1, h2', h3', hrl, hxl]
          rfl
        rw [e]
        exact hos
    · refine ⟨_, _, .refl, hI1, OS0, rfl, ?_, rfl⟩
      have e : fromG deb g i = [] := by rw [fromG, inR, h1]; rfl
      rw [e]
      exact OS0_ok 1

end Go.V

/-
  Plain: the parts, as the document lists them.
-/
set_option linter.unusedVariables false
set_option linter.unusedSimpArgs false
namespace Go.V
open Go Go.Proofs

def mutB (R : List (List Bool)) (i k : Nat) : Bool := mat R i k && mat R k i
theorem mutB_iff {R : List (List Bool)} {i k : Nat} : mutB R i k = true ↔ Mutual R i k := by
  unfold mutB Mutual
  rw [Bool.and_eq_true]
def firstB (R : List (List Bool)) (n i : Nat) : Bool := (List.range n).all fun k => !mutB R i k || decide (i ≤ k)
def partsR (R : List (List Bool)) (n : Nat) : List (List Int) := ((List.range n).filter (firstB R n)).map fun i => pickL (mutB R i) n
theorem partGo_list (R : List (List Bool)) (i : Nat) : ∀ (f k : Nat) (p : List Bool) (q : List Int), (partGo R i f k p q).2 = q ++ ((List.range' k f).filter (mutB R i)).map fun (a : Nat) => (a : Int)
  | 0, k, p, q => by simp [partGo]
  | f + 1, k, p, q => by
    unfold partGo
    rw [List.range'_succ, List.filter_cons]
    cases h : mat R i k && mat R k i with
    | true =>
      have h' : mutB R i k = true := h
      rw [cond_true, partGo_list R i f, h']
      simp
    | false =>
      have h' : mutB R i k = false := h
      rw [cond_false, partGo_list R i f, h']
      simp
theorem roundsGo_eq {R : List (List Bool)} {n : Nat} (hR : Equ R n) : ∀ (f i : Nat) (p : List Bool) (ps : List (List Int)), i + f = n → p.length = n → (∀ a, a < n → (isM p a ↔ ∃ j, j < i ∧ Mutual R j a)) →
    roundsGo R n f i p ps = ps ++ ((List.range' i f).filter (firstB R n)).map fun i => pickL (mutB R i) n
  | 0, i, p, ps, _, _, _ => by simp [roundsGo]
  | f + 1, i, p, ps, hi, hp, hpl => by
    unfold roundsGo
    rw [List.range'_succ, List.filter_cons]
    cases hb : p.getD i false with
    | true =>
      obtain ⟨j', g1, g2⟩ := (hpl i (by omega)).1 hb
      have hfi : firstB R n i = false := by
        rw [Bool.eq_false_iff]
        intro h
        unfold firstB at h
        rw [List.all_eq_true] at h
        have := h j' (List.mem_range.2 (by omega))
        rw [mutB_iff.2 g2.symm] at this
        simp at this
        omega
      rw [cond_true, hfi]
      refine roundsGo_eq hR f (i + 1) p ps (by omega) hp fun a ha => ?_
      rw [hpl a ha]
      constructor
      · rintro ⟨j, h1, h2⟩
        exact ⟨j, by omega, h2⟩
      · rintro ⟨j, h1, h2⟩
        by_cases e : j = i
        · subst e
          exact ⟨j', g1, hR.trans _ _ _ g2 h2⟩
        · exact ⟨j, by omega, h2⟩
    | false =>
      have hni : ¬ isM p i := by simpa [isM] using hb
      have hno : ∀ j, j < i → ¬ Mutual R j i := fun j hj hm => hni ((hpl i (by omega)).2 ⟨j, hj, hm⟩)
      have hnp : ∀ a, i ≤ a → a < n → Mutual R i a → ¬ isM p a := fun a h1 h2 h3 h4 => by
        obtain ⟨j, g1, g2⟩ := (hpl a h2).1 h4
        exact hno j g1 (hR.trans _ _ _ g2 h3.symm)
      obtain ⟨q1, q2, q3⟩ := partGo_ok (n := n) (n - i) i p [] (by omega) hp hnp
      have hl := (partGo_len R i (n - i) i p []).1
      have hfi : firstB R n i = true := by
        unfold firstB
        rw [List.all_eq_true]
        intro k hk
        by_cases e : i ≤ k
        · simp [e]
        · have : mutB R i k = false := by
            rw [Bool.eq_false_iff]
            intro h
            exact hno k (by omega) (mutB_iff.1 h).symm
          simp [this]
      have hpart : (partGo R i (n - i) i p []).2 = pickL (mutB R i) n := by
        rw [partGo_list, List.nil_append]
        unfold pickL
        have hr : List.range n = List.range i ++ List.range' i (n - i) := by
          rw [List.range_eq_range', List.range_eq_range']
          have := List.range'_append (s := 0) (m := i) (n := n - i) (step := 1)
          rw [Nat.one_mul, Nat.zero_add] at this
          rw [this]
          congr 1
          omega
        have hz : (List.range i).filter (mutB R i) = [] := by
          rw [List.filter_eq_nil_iff]
          intro k hk h
          exact hno k (List.mem_range.1 hk) (mutB_iff.1 h).symm
        rw [hr, List.filter_append, hz, List.nil_append]
      rw [cond_false, hfi, hpart]
      simp only [if_true, List.map_cons]
      rw [roundsGo_eq hR f (i + 1) _ _ (by omega) (by rw [hl]; exact hp) fun a ha => ?_]
      · simp
      · rw [q1, hpl a ha]
        constructor
        · rintro (⟨j, h1, h2⟩ | ⟨h1, h2, h3⟩)
          · exact ⟨j, by omega, h2⟩
          · exact ⟨i, by omega, h3⟩
        · rintro ⟨j, h1, h2⟩
          by_cases e : j = i
          · subst e
            by_cases e2 : j ≤ a
            · exact .inr ⟨e2, ha, h2⟩
            · exact absurd h2.symm (hno a (by omega))
          · exact .inl ⟨j, by omega, h2⟩
theorem roundsL_eq {L : List (List Int)} (hL : ∀ l ∈ L, valid L.length l) : roundsL L = partsR (matOf L) L.length := by
  unfold roundsL partsR
  rw [roundsGo_eq (equ_mat hL) L.length 0 _ _ (by omega) (by simp) fun a ha => ?_]
  · rw [List.nil_append, List.range_eq_range']
  · constructor
    · intro h
      exfalso
      simp [isM, List.getD_eq_getElem?_getD, ha] at h
    · rintro ⟨j, h, _⟩
      omega
end Go.V

/-
  Walk: bonsairef12.Rounds.
-/
set_option linter.unusedVariables false
set_option linter.unusedSimpArgs false
namespace Go.V
open Go Go.Proofs

theorem permB {α : Type} (a : α) (P O : List α) : (a :: (P ++ O)).Perm (P ++ (O ++ [a])) := by
  have := (List.perm_append_singleton a (P ++ O)).symm
  rwa [List.append_assoc] at this
theorem permC {α : Type} (a : α) (P O : List α) : (a :: (P ++ O)).Perm (O ++ (P ++ [a])) := by
  have h := (List.perm_append_singleton a (O ++ P)).symm
  rw [List.append_assoc] at h
  exact (List.perm_append_comm.cons a).trans h
theorem permD {α : Type} (g b : α) (P : List α) : (g :: (P ++ [b])).Perm ([b] ++ (P ++ [g])) :=
  ((List.perm_append_singleton b P).cons g).trans ((List.Perm.swap b g P).trans ((List.perm_append_singleton g P).symm.cons b))
def firstTo (R : List (List Bool)) (i k : Nat) : Bool := (List.range k).all fun a => !mutB R i a || decide (i ≤ a)
theorem firstTo_succ (R : List (List Bool)) (i k : Nat) : firstTo R i (k + 1) = (firstTo R i k && (!mutB R i k || decide (i ≤ k))) := by
  unfold firstTo
  rw [List.range_succ, List.all_append]
  simp
def partsTo (R : List (List Bool)) (n i : Nat) : List (List Int) := ((List.range i).filter (firstB R n)).map fun a => pickL (mutB R a) n
theorem partsTo_succ (R : List (List Bool)) (n i : Nat) : partsTo R n (i + 1) = partsTo R n i ++ (bif firstB R n i then [pickL (mutB R i) n] else []) := by
  unfold partsTo
  rw [List.range_succ, List.filter_append, List.map_append]
  cases h : firstB R n i <;> simp [h]
theorem partsTo_len (R : List (List Bool)) (n i : Nat) : (partsTo R n i).length ≤ i := by
  have := List.length_filter_le (firstB R n) (List.range i)
  simpa [partsTo] using this

set_option maxRecDepth 100000 in
set_option maxHeartbeats 4000000 in
theorem RRounds_spec {I : GH} {deb : List Int} (hcl : ClsOk deb) {g : Gr} (hg : g.ok I) (hf : GFit g) : Spec Tryz.prog 11 [g.val] I [] fun v I' M' => (∀ b o, I b = some o → I' b = some o) ∧ ∃ (os : OS) (rs : List Rw), v = os.val ∧ os.ok 1 (rs.map Rw.val) ∧ (∀ r ∈ rs, r.ok I') ∧ rs.map (·.l) = roundsG deb g ∧ M' = os.blk 27 := by
  refine spec_of_V [] TryzEOK Tryz.func11 rfl rfl rfl ?_
  intro B h0
  have hfn := hf.n
  have hgn := hg.n
  refine CallOb.mk [] [] _ (.refl _) (Rthere_spec hcl hg hf 0) ?_
  rintro v J N - ⟨rfl, hJ, rfl⟩
  subst J
  refine CondOb.mk (fun h => ?_) (fun h => ?_)
  · have ht : thereR deb g 0 = false := by simpa using h
    have e : roundsG deb g = [] := by
      unfold roundsG
      rw [there0] at ht
      cases hm : decide (mayG deb g = 0) with
      | false => rfl
      | true =>
        rw [hm, Bool.true_and] at ht
        have h0 : g.n = 0 := by simp at ht; omega
        have hl : callsL g = [] := List.eq_nil_of_length_eq_zero (by rw [callsL_len hgn]; exact h0)
        rw [hl]
        rfl
    exact ⟨_, _, .refl, fun _ _ h => h, OS0, [], rfl, OS0_ok 1, by simp, by rw [e]; rfl, rfl⟩
  have ht : thereR deb g 0 = true := by simpa using h
  have hm : mayG deb g = 0 := by unfold thereR at ht; simp at ht; exact ht.2
  have hrg : roundsG deb g = partsTo (matOf (callsL g)) g.n g.n := by
    unfold roundsG
    rw [decide_eq_true hm, cond_true, roundsL_eq (callsL_valid hgn), callsL_len hgn]
    rfl
  rw [hrg]
  refine CallOb.mk [] [] _ (.refl _) (Rtable_spec hg hfn) ?_
  rintro v I1 M1 - ⟨hI1, rfl, x, rfl, hx0, hxn, hri⟩
  have hsq := hri.sq
  have hR := table_eq hgn hm hri
  rw [hR] at hsq
  clear hri hrg
  generalize matOf (callsL g) = R at *
  refine LoopOb.inv (ι := Nat × OS × List Rw × GH) (fun y => { fl := [(1, .ref 1 0), (3, .val x.val), (4, .val y.2.1.val), (5, .val (.int .i64 y.1))], cl := [(1, [.slice g.a g.n g.c])], gi := y.2.2.2, mi := y.2.1.blk 27 })
    (fun y => y.1 ≤ g.n ∧ y.2.1.ok 1 (y.2.2.1.map Rw.val) ∧ (∀ b o, I1 b = some o → y.2.2.2 b = some o) ∧ (∀ r ∈ y.2.2.1, r.ok y.2.2.2) ∧ y.2.2.1.map (·.l) = partsTo R g.n y.1) (fun y => g.n - y.1) ?_ ?_
  · exact ⟨(0, OS0, [], I1), ⟨Nat.zero_le _, OS0_ok 1, fun _ _ h => h, by simp, rfl⟩, .refl, .cons .refl (.cons .refl (.cons .refl (.cons .refl .nil))), .cons rfl .nil⟩
  rintro ⟨i, os, ws, I3⟩ ⟨hi, hos, hI3, hws, hwl⟩
  simp only at hi hos hI3 hws hwl
  have hx := hx0.mono hI3
  have hon : os.n ≤ g.n := by
    have h1 := hos.len
    have h2 := congrArg List.length hwl
    have h3 := partsTo_len R g.n i
    simp at h1 h2
    omega
  refine CondOb.mk (fun h => ?_) (fun h => ?_)
  · have hlt : i < g.n := by simpa using h
    obtain ⟨ai, ri, hai, hrdi, hrni, hrki⟩ := Lb.cell hx hxn hR hsq hlt
    refine LoopOb.inv (ι := Nat × Bool × OS) (fun z => { fl := [(1, .ref 1 0), (3, .val x.val), (4, .val os.val), (5, .val (.int .i64 i)), (6, .val (.bool z.2.1)), (7, .val z.2.2.val), (8, .val (.int .i64 z.1))], cl := [(1, [.slice g.a g.n g.c])], gi := I3, mi := z.2.2.blk 3 ++ os.blk 27 })
      (fun z => z.1 ≤ g.n ∧ z.2.1 = firstTo R i z.1 ∧ z.2.2.ok 1 ((pickL (mutB R i) z.1).map (.int .i64 ·)) ∧ ∀ b, z.2.2.a = some b → I3 b = none) (fun z => g.n - z.1) ?_ ?_
    · exact ⟨(0, true, OS0), ⟨Nat.zero_le _, rfl, OS0_ok 1, fun b h => by cases h⟩, .refl, .cons .refl (.cons .refl (.cons .refl (.cons .refl (.cons .lit (.cons .refl (.cons .refl .nil)))))), .cons rfl .nil⟩
    rintro ⟨k, b, oq⟩ ⟨hk, hb, hoq, hoI⟩
    simp only at hk hb hoq hoI
    have hql := hoq.len1
    have hpl := pickL_len (mutB R i) k
    have hsn := pickL_succ (mutB R i) k
    have hfs := firstTo_succ R i k
    rw [← hb] at hfs
    refine CondOb.mk (fun h2 => ?_) (fun h2 => ?_)
    · have hkl : k < g.n := by simpa using h2
      obtain ⟨ci, hci, hrci⟩ := hrki k hkl
      obtain ⟨ak, rk, hak, hrdk, hrnk, hrkk⟩ := Lb.cell hx hxn hR hsq hkl
      obtain ⟨ck, hck, hrck⟩ := hrkk i hlt
      refine IdxOb.mk ai i hai rfl (by omega) ?_
      refine LoadOb.mk _ (hrdi _) ?_
      refine IdxOb.mk ci k hci rfl (by omega) ?_
      refine LoadOb.mk _ (hrci _) ?_
      refine GuardOb.mk (fun c1 => ?_) (fun c1 => ?_)
      · refine IdxOb.mk ak k hak rfl (by omega) ?_
        refine LoadOb.mk _ (hrdk _) ?_
        refine IdxOb.mk ck i hck rfl (by omega) ?_
        refine LoadOb.mk _ (hrck _) ?_
        refine CondOb.mk (fun c2 => ?_) (fun c2 => ?_)
        · have hmu : mutB R i k = true := by
            show (at2 R i k && at2 R k i) = true
            rw [c1, c2]
            rfl
          rw [hmu, cond_true] at hsn
          rw [hmu, Bool.not_true, Bool.false_or] at hfs
          refine GuardOb.mk (fun c3 => ?_) (fun c3 => ?_)
          · refine AllocOb.mk fun b9 hb9 hbM9 => ?_
            refine OtherOb.appendN TryzEOK rfl (by simp) (e := 3) rfl rfl rfl oq hoq rfl (m := 1) rfl (news := [.int .i64 k]) (by decide) (blk_rd (b := b9) (cs := [.int .i64 k]) (k := 0) (n := 1) (T := 3) (.head _) (by simp)) rfl (Mr := os.blk 27 ++ [⟨b9, .cells #[.int .i64 k] 3 (0, 0)⟩]) (permB _ _ _) (by simp only [maxLen]; omega) (by show (oq.n + 1) * 8 ≤ _; omega) ?_
            intro g' c' cur' q0 q1 q2 q3 q4
            refine ArithOb.mk _ (next_wr (i := k) (by omega)) ?_
            refine ⟨(k + 1, _, ⟨some g', oq.n + 1, c', cur'⟩), ⟨⟨by simp only; omega, ?_, ?_, fun b hb => by cases hb; exact q0⟩, by simp only; omega⟩, .sub (List.Sublist.cons_cons _ (List.sublist_append_left _ _)) .refl, .cons .refl (.cons .refl (.cons .refl (.cons .refl (.cons .refl (.cons .refl (.cons .refl .nil)))))), .cons rfl .nil⟩
            · simp only
              have c3' : b = true := c3
              rw [hfs, c3', Bool.true_and]
              exact decide_eq_decide.2 (by omega)
            · simp only
              rw [hsn, List.map_append]
              exact app1_ok hoq q1 q2 q3 q4
          · refine AllocOb.mk fun b9 hb9 hbM9 => ?_
            refine OtherOb.appendN TryzEOK rfl (by simp) (e := 3) rfl rfl rfl oq hoq rfl (m := 1) rfl (news := [.int .i64 k]) (by decide) (blk_rd (b := b9) (cs := [.int .i64 k]) (k := 0) (n := 1) (T := 3) (.head _) (by simp)) rfl (Mr := os.blk 27 ++ [⟨b9, .cells #[.int .i64 k] 3 (0, 0)⟩]) (permB _ _ _) (by simp only [maxLen]; omega) (by show (oq.n + 1) * 8 ≤ _; omega) ?_
            intro g' c' cur' q0 q1 q2 q3 q4
            refine ArithOb.mk _ (next_wr (i := k) (by omega)) ?_
            refine ⟨(k + 1, false, ⟨some g', oq.n + 1, c', cur'⟩), ⟨⟨by simp only; omega, ?_, ?_, fun b hb => by cases hb; exact q0⟩, by simp only; omega⟩, .sub (List.Sublist.cons_cons _ (List.sublist_append_left _ _)) .refl, .cons .refl (.cons .refl (.cons .refl (.cons .refl (.cons .lit (.cons .refl (.cons .refl .nil)))))), .cons rfl .nil⟩
            · simp only
              have c3' : b = false := by simpa using c3
              rw [hfs, c3']
              rfl
            · simp only
              rw [hsn, List.map_append]
              exact app1_ok hoq q1 q2 q3 q4
        · have hmu : mutB R i k = false := by
            show (at2 R i k && at2 R k i) = false
            rw [c1, c2]
            rfl
          rw [hmu, cond_false, List.append_nil] at hsn
          rw [hmu, Bool.not_false, Bool.true_or, Bool.and_true] at hfs
          refine ArithOb.mk _ (next_wr (i := k) (by omega)) ?_
          exact ⟨(k + 1, b, oq), ⟨⟨by simp only; omega, hfs.symm, by simp only; rw [hsn]; exact hoq, hoI⟩, by simp only; omega⟩, .refl, .cons .refl (.cons .refl (.cons .refl (.cons .refl (.cons .refl (.cons .refl (.cons .refl .nil)))))), .cons rfl .nil⟩
      · have hmu : mutB R i k = false := by
          show (at2 R i k && at2 R k i) = false
          rw [c1]
          rfl
        rw [hmu, cond_false, List.append_nil] at hsn
        rw [hmu, Bool.not_false, Bool.true_or, Bool.and_true] at hfs
        refine ArithOb.mk _ (next_wr (i := k) (by omega)) ?_
        exact ⟨(k + 1, b, oq), ⟨⟨by simp only; omega, hfs.symm, by simp only; rw [hsn]; exact hoq, hoI⟩, by simp only; omega⟩, .refl, .cons .refl (.cons .refl (.cons .refl (.cons .refl (.cons .refl (.cons .refl (.cons .refl .nil)))))), .cons rfl .nil⟩
    · have hke : k = g.n := by simp at h2; omega
      subst hke
      have hpt := partsTo_succ R g.n i
      have hbf : b = firstB R g.n i := hb
      refine CondOb.mk (fun c4 => ?_) (fun c4 => ?_)
      · have c4' : b = true := c4
        rw [← hbf, c4', cond_true] at hpt
        refine AllocOb.mk fun b9 hb9 hbM9 => ?_
        refine OtherOb.appendN TryzEOK rfl (by simp) (e := 27) rfl rfl rfl os hos rfl (m := 1) rfl (news := [oq.val]) (by decide) (blk_rd (b := b9) (cs := [oq.val]) (k := 0) (n := 1) (T := 27) (.head _) (by simp)) rfl (Mr := oq.blk 3 ++ [(⟨b9, .cells #[oq.val] 27 (0, 0)⟩ : Blk)]) (permC _ _ _) (by simp only [maxLen]; omega) (by show (os.n + 1) * 24 ≤ _; omega) ?_
        intro g' c' cur' q0 q1 q2 q3 q4
        refine ArithOb.mk _ (next_wr (i := i) (by omega)) ?_
        obtain ⟨I4, r, w1, w2, w3, w4, w5⟩ := OS.giveInts (e := 3) hoq (by omega) hoI [⟨g', .cells cur'.toArray 27 (0, 0)⟩]
        refine ⟨(i + 1, ⟨some g', os.n + 1, c', cur'⟩, ws ++ [r], I4), ⟨⟨by simp only; omega, ?_, fun b o h => w2 _ _ (hI3 _ _ h), fun r' hr' => ?_, ?_⟩, by simp only; omega⟩, .perm (permD _ _ _) (.sub (List.sublist_append_right [(⟨b9, .cells #[oq.val] 27 (0, 0)⟩ : Blk)] _) w1), .cons .refl (.cons .refl (.cons .refl (.cons .refl .nil))), .cons rfl .nil⟩
        · simp only
          rw [List.map_append, List.map_cons, List.map_nil, ← w3]
          exact app1_ok hos q1 q2 q3 q4
        · simp only [List.mem_append, List.mem_singleton] at hr'
          rcases hr' with hr' | rfl
          · exact (hws r' hr').mono w2
          · exact w4
        · simp only
          rw [List.map_append, List.map_cons, List.map_nil, w5, hpt, hwl]
      · have c4' : b = false := c4
        rw [← hbf, c4', cond_false, List.append_nil] at hpt
        refine ArithOb.mk _ (next_wr (i := i) (by omega)) ?_
        exact ⟨(i + 1, os, ws, I3), ⟨⟨by simp only; omega, hos, hI3, hws, by simp only; rw [hpt]; exact hwl⟩, by simp only; omega⟩, .sub (List.sublist_append_right _ _) .refl, .cons .refl (.cons .refl (.cons .refl (.cons .refl .nil))), .cons rfl .nil⟩
  · have hie : i = g.n := by simp at h; omega
    subst hie
    exact ⟨_, _, .refl, fun b o h => hI3 _ _ (hI1 _ _ h), os, ws, rfl, hos, hws, hwl, rfl⟩
end Go.V

/-
  Walk: reach.Rounds; what is told is the caller's own.
-/
set_option linter.unusedVariables false
set_option linter.unusedSimpArgs false
namespace Go.V
open Go Go.Proofs

/-- Own rows of numbers. -/
structure PsOk (ps : List OS) (ls : List (List Int)) : Prop where
  len : ls.length = ps.length
  ok : ∀ j (h : j < ps.length) (h' : j < ls.length), (ps[j]).ok 1 ((ls[j]).map (.int .i64 ·))
theorem PsOk.nil : PsOk [] [] := ⟨rfl, fun j h => by simp at h⟩
theorem PsOk.snoc {ps : List OS} {ls : List (List Int)} (h : PsOk ps ls) {o : OS} {l : List Int} (ho : o.ok 1 (l.map (.int .i64 ·))) : PsOk (ps ++ [o]) (ls ++ [l]) := by
  refine ⟨by simp [h.len], fun j hj hj' => ?_⟩
  by_cases e : j < ps.length
  · rw [List.getElem_append_left e, List.getElem_append_left (by rw [h.len]; exact e)]
    exact h.ok j e _
  · have hj2 : j = ps.length := by simp at hj; omega
    subst hj2
    simp only [List.getElem_concat_length]
    have : (ls ++ [l])[ps.length] = l := by
      rw [List.getElem_append_right (by rw [h.len]; exact Nat.le_refl _)]
      simp [h.len]
    rw [this]
    exact ho
def psB (ps : List OS) : List Blk := ps.flatMap fun o => o.blk 3
theorem psB_snoc (ps : List OS) (o : OS) : psB (ps ++ [o]) = psB ps ++ o.blk 3 := by simp [psB]
theorem permE {α : Type} (a : α) (L1 L2 X : List α) : (a :: ((L1 ++ L2) ++ X)).Perm (L1 ++ (L2 ++ (X ++ [a]))) := by
  have := (List.perm_append_singleton a ((L1 ++ L2) ++ X)).symm
  simpa [List.append_assoc] using this
theorem permF {α : Type} (a : α) (Q O X : List α) : (a :: (Q ++ (O ++ X))).Perm (O ++ (Q ++ (X ++ [a]))) := by
  have h1 : (Q ++ (O ++ X)).Perm (O ++ (Q ++ X)) := by
    rw [← List.append_assoc, ← List.append_assoc]
    exact List.perm_append_comm.append_right X
  have h2 := (h1.cons a).trans (List.perm_append_singleton a (O ++ (Q ++ X))).symm
  simpa [List.append_assoc] using h2
theorem permG {α : Type} (g b : α) (Q X : List α) : (g :: (Q ++ (X ++ [b]))).Perm ([b] ++ (g :: (X ++ Q))) := by
  have h1 : (Q ++ (X ++ [b])).Perm (b :: (X ++ Q)) := List.perm_append_comm.trans ((List.perm_append_singleton b X).append_right Q)
  exact (h1.cons g).trans (List.Perm.swap _ _ _)

set_option maxHeartbeats 4000000 in
theorem Rounds_own {I : GH} {deb : List Int} (hT : Tabs I deb) {g : Gr} (hg : g.ok I) (hn : g.n ≤ 1099511627776) : Spec Tryz.prog 10 [g.val] I [] fun v I' M' => (∀ b o, I b = some o → I' b = some o) ∧ ∃ (os : OS) (ps : List OS), v = os.val ∧ os.ok 1 (ps.map OS.val) ∧ PsOk ps (roundsG deb g) ∧ M' = os.blk 27 ++ psB ps := by
  refine spec_of_V [] TryzEOK Tryz.func10 rfl rfl rfl ?_
  intro B h0
  have hgn := hg.n
  refine CallOb.mk [] [] _ (.refl _) (calls_spec hT hg hn) ?_
  rintro v I1 M1 - ⟨hI1, rfl, ⟨hm, rfl⟩ | ⟨hm, x, rfl, hx, hxl⟩⟩
  · refine CondOb.mk (fun _ => ?_) (fun h => by cases h)
    refine ⟨_, _, .refl, hI1, OS0, [], rfl, OS0_ok 1, ?_, rfl⟩
    have h3' : decide (mayG deb g = 0) = false := by simpa using hm
    have e : roundsG deb g = [] := by rw [roundsG, h3']; rfl
    rw [e]
    exact PsOk.nil
  · have h3' : decide (mayG deb g = 0) = true := by simpa using hm
    have hrg : roundsG deb g = roundsL x.ll := by
      rw [roundsG, h3', hxl]
      rfl
    rw [hrg]
    have hxr := hx.n
    have hxn : x.n = g.n := by
      have h2 := congrArg List.length hxl
      simp only [Ls.ll, List.length_map, callsL] at h2
      omega
    have hv : ∀ l ∈ x.ll, valid x.ll.length l := by rw [hxl]; exact callsL_valid hgn
    have hll : x.ll.length = x.n := by simp [Ls.ll, hxr]
    refine CondOb.mk (fun h => by cases h) (fun _ => ?_)
    refine MakeOb.mk x.n x.n rfl rfl (Nat.le_refl _) (by show 24 * x.n ≤ _; omega) (by omega) ?_
    refine AllocOb.mk fun b hb hbM => ?_
    refine LoopOb.inv (ι := Nat × List Rb × GH) (fun y => { fl := [(3, .val x.val), (5, .val (.slice (some ⟨b, 0, none⟩) x.n x.n)), (23, .val (.int .i64 x.n)), (24, .val (.int .i64 y.1))], gi := y.2.2, mi := [⟨b, .cells (y.2.1.map Rb.val ++ List.replicate (x.n - y.1) (Value.slice none 0 0)).toArray 74 (0, 0)⟩] })
      (fun y => y.1 ≤ x.n ∧ y.2.1.length = y.1 ∧ (∀ b o, I1 b = some o → y.2.2 b = some o) ∧ y.2.2 b = none ∧ (∀ r ∈ y.2.1, r.ok y.2.2) ∧ y.2.1.map (·.l) = (List.range y.1).map (fun i => fromL x.ll i)) (fun y => x.n - y.1) ?_ ?_
    · refine ⟨(0, [], I1), ⟨by simp, rfl, fun _ _ h => h, hb, by simp, rfl⟩, ?_, .cons .refl (.cons .refl (.cons .refl (.cons .refl .nil))), .nil⟩
      show Wk _ _ [⟨b, .cells (rowOf [.slice none 0 0] (x.n * 1)).toArray 74 (0, 0)⟩] _ _
      rw [rowOf_one, Nat.mul_one]
      exact .refl
    · rintro ⟨i, rs, I2⟩ ⟨hi, hrl, hI2, hb2, hro, hrs⟩
      simp only at hi hrl hI2 hb2 hro hrs
      refine CondOb.mk (fun h => ?_) (fun h => ?_)
      · have hlt : i < x.n := by simpa using h
        refine CallOb.mkD [] [⟨b, .cells (rs.map Rb.val ++ List.replicate (x.n - i) (Value.slice none 0 0)).toArray 74 (0, 0)⟩] _ (.refl _) (from_spec (hx.mono hI2) (by omega) hv (i := i) hlt) ?_
        rintro v I3 M3 - hd3 ⟨hI3, r, rfl, hr, hrlv, rfl⟩
        refine IdxOb.mk ⟨b, 0, none⟩ i rfl rfl hlt ?_
        refine StoreOb.add [] [] _ _ rfl ?_ rfl ?_
        · simp only [List.size_toArray, List.length_append, List.length_map, List.length_replicate]
          show 0 + i * 1 + 1 ≤ _
          omega
        refine ArithOb.mk _ (next_wr (i := i) (by omega)) ?_
        refine ⟨(i + 1, rs ++ [r], I3), ⟨⟨by simp only; omega, by simp [hrl], fun b o h => hI3 _ _ (hI2 _ _ h), hd3 _ (.head _), fun r' hr' => ?_, ?_⟩, by simp only; omega⟩, ?_, .cons .refl (.cons .refl (.cons .refl (.cons .refl .nil))), .nil⟩
        · simp only [List.mem_append, List.mem_singleton] at hr'
          rcases hr' with hr' | rfl
          · exact (hro r' hr').mono hI3
          · exact hr
        · simp only
          rw [List.map_append, hrs, List.range_succ, List.map_append]
          simp [hrlv]
        · have hrep : List.replicate (x.n - i) (Value.slice none 0 0) = .slice none 0 0 :: List.replicate (x.n - (i + 1)) (.slice none 0 0) := by
            rw [show x.n - i = (x.n - (i + 1)) + 1 from by omega, List.replicate_succ]
          have e := splice_pre (pre := rs.map Rb.val) (post := List.replicate (x.n - (i + 1)) (.slice none 0 0)) (z := .slice none 0 0) (v := r.val) (k := 0 + i * 1) (by simp [hrl])
          rw [hrep]
          simp only [List.map_append, List.map_cons, List.map_nil, List.append_assoc, List.cons_append, List.nil_append]
          rw [← e]
          exact .refl
      · have hge : x.n ≤ i := by simpa using h
        have hin : i = x.n := by omega
        subst hin
        have hmat : rs.map (·.l) = matOf x.ll := by rw [hrs, matOf, hll]
        -- the rows of marks stand
        have hRok : Lb.ok (ins I2 b (.cells (rs.map Rb.val ++ List.replicate (x.n - x.n) (Value.slice none 0 0)).toArray 74 (0, 0))) ⟨rs, some ⟨b, 0, none⟩, x.n, x.n⟩ := by
          refine ⟨⟨by simp [hrl], ⟨Nat.le_refl _, by simp only; omega⟩, .inr ⟨_, rfl, rfl, _, _, _, ins_self .., ?_⟩⟩, fun r hr => (hro r hr).mono (ins_le hb2)⟩
          simp [hrl]
          exact List.take_of_length_le (by simp [hrl])
        generalize hR : (⟨rs, some ⟨b, 0, none⟩, x.n, x.n⟩ : Lb) = R at hRok
        have hRv : R.val = .slice (some ⟨b, 0, none⟩) x.n x.n := by rw [← hR]; rfl
        have hRr : R.rows = rs := by rw [← hR]
        have hRn : R.n = x.n := by rw [← hR]
        have hRa : R.a = some ⟨b, 0, none⟩ := by rw [← hR]
        generalize hI0 : ins I2 b (.cells (rs.map Rb.val ++ List.replicate (x.n - x.n) (Value.slice none 0 0)).toArray 74 (0, 0)) = I0 at hRok
        have hI20 : ∀ b o, I2 b = some o → I0 b = some o := by rw [← hI0]; exact ins_le hb2
        refine MakeOb.mk x.n x.n rfl rfl (Nat.le_refl _) (by show 1 * x.n ≤ _; omega) (by omega) ?_
        refine AllocOb.mk fun b8 hb8 hbM8 => ?_
        refine LoopOb.inv (ι := Nat × List Bool × OS × List OS × List (List Int)) (fun y => { fl := [(3, .val x.val), (5, .val R.val), (7, .val y.2.2.1.val), (8, .val (.slice (some ⟨b8, 0, none⟩) x.n x.n)), (38, .val (.int .i64 x.n)), (39, .val (.int .i64 y.1))], gi := I0, mi := y.2.2.1.blk 27 ++ (boolRow b8 y.2.1 :: psB y.2.2.2.1) })
          (fun y => y.1 ≤ x.n ∧ y.2.1.length = x.n ∧ y.2.2.1.ok 1 (y.2.2.2.1.map OS.val) ∧ PsOk y.2.2.2.1 y.2.2.2.2 ∧ y.2.2.2.1.length ≤ y.1 ∧ roundsL x.ll = roundsGo (matOf x.ll) x.n (x.n - y.1) y.1 y.2.1 y.2.2.2.2) (fun y => x.n - y.1) ?_ ?_
        · refine ⟨(0, List.replicate x.n false, OS0, [], []), ⟨by simp, by simp, OS0_ok 1, PsOk.nil, by simp, by simp only [roundsL, hll]; rfl⟩, ?_, .cons .refl (.cons (by simp only [hRv]; exact .refl) (.cons .refl (.cons .refl (.cons .refl (.cons .refl .nil))))), .nil⟩
          have hr8 : rowOf [.bool false] (x.n * 1) = (List.replicate x.n false).map Value.bool := by
            rw [rowOf_one, Nat.mul_one, List.map_replicate]
          show Wk _ _ [⟨b8, .cells (rowOf [.bool false] (x.n * 1)).toArray 4 (0, 0)⟩, _] _ _
          rw [hr8]
          refine .perm (List.Perm.swap _ _ _) (.prom rfl (by simp) ?_)
          rw [hI0]
          exact .refl
        · rintro ⟨i, p, os, ps, ls⟩ ⟨hi, hpl, hos, hps, hwl, hgo⟩
          simp only at hi hpl hos hps hwl hgo
          refine CondOb.mk (fun h => ?_) (fun h => ?_)
          · have hlt : i < x.n := by simpa using h
            have hlp : i < p.length := by omega
            have hR3 := hRok
            have hosn : os.n = ps.length := by
              have := hos.len
              simp at this
              omega
            have hgd : p.getD i false = p[i] := by simp [List.getD_eq_getElem?_getD, hlp]
            have hgo1 : roundsL x.ll = bif p.getD i false then roundsGo (matOf x.ll) x.n (x.n - (i + 1)) (i + 1) p ls else roundsGo (matOf x.ll) x.n (x.n - (i + 1)) (i + 1) (partGo (matOf x.ll) i (x.n - i) i p []).1 (ls ++ [(partGo (matOf x.ll) i (x.n - i) i p []).2]) := by
              rw [hgo, show x.n - i = (x.n - (i + 1)) + 1 from by omega, roundsGo, show (x.n - (i + 1)) + 1 = x.n - i from by omega]
            refine IdxOb.mk ⟨b8, 0, none⟩ i rfl rfl hlt ?_
            refine LoadOb.mk _ (boolRow_rd (by simp) hlp) ?_
            refine CondOb.mk (fun h2 => ?_) (fun h2 => ?_)
            · rw [hgd, h2] at hgo1
              refine ArithOb.mk _ (next_wr (i := i) (by omega)) ?_
              exact ⟨(i + 1, p, os, ps, ls), ⟨⟨by simp only; omega, hpl, hos, hps, by simp only; omega, hgo1⟩, by simp only; omega⟩, .refl, .cons .refl (.cons .refl (.cons .refl (.cons .refl (.cons .refl (.cons .refl .nil))))), .nil⟩
            · rw [hgd, h2, cond_false] at hgo1
              refine LoopOb.inv (ι := Nat × List Bool × OS × List Int) (fun z => { fl := [(3, .val x.val), (5, .val R.val), (7, .val os.val), (8, .val (.slice (some ⟨b8, 0, none⟩) x.n x.n)), (9, .val (.int .i64 i)), (10, .val z.2.2.1.val), (11, .val (.int .i64 z.1)), (38, .val (.int .i64 x.n)), (39, .val (.int .i64 i))], gi := I0, mi := z.2.2.1.blk 3 ++ (os.blk 27 ++ (boolRow b8 z.2.1 :: psB ps)) })
                (fun z => z.1 ≤ x.n ∧ i ≤ z.1 ∧ z.2.1.length = x.n ∧ z.2.2.1.ok 1 (z.2.2.2.map (.int .i64 ·))  ∧ z.2.2.2.length ≤ z.1 ∧ partGo (matOf x.ll) i (x.n - i) i p [] = partGo (matOf x.ll) i (x.n - z.1) z.1 z.2.1 z.2.2.2) (fun z => x.n - z.1) ?_ ?_
              · exact ⟨(i, p, OS0, []), ⟨by simp only; omega, Nat.le_refl _, hpl, OS0_ok 1, Nat.zero_le _, rfl⟩, .refl, .cons .refl (.cons .refl (.cons .refl (.cons .refl (.cons .refl (.cons .refl (.cons .refl (.cons .refl (.cons .refl .nil)))))))), .nil⟩
              · rintro ⟨k, s, oq, q⟩ ⟨hk, hik, hsl, hoq, hql, hpg⟩
                simp only at hk hik hsl hoq hql hpg
                have hoqn := hoq.len1
                refine CondOb.mk (fun h => ?_) (fun h => ?_)
                · have hkl : k < x.n := by simpa using h
                  have rowi : ∀ {j : Nat} (hj : j < x.n), ∃ (hjr : j < R.rows.length), (R.rows[j]'hjr).ok I0 ∧ (R.rows[j]'hjr).n = x.n ∧ (R.rows[j]'hjr).l.length = x.n ∧ ∀ a (ha : a < (R.rows[j]'hjr).l.length), mat (matOf x.ll) j a = (R.rows[j]'hjr).l[a] := fun {j} hj => by
                    have hjr : j < R.rows.length := by rw [hRr]; omega
                    have hok := hR3.rows _ (List.getElem_mem hjr)
                    have hmj : (matOf x.ll).getD j [] = (R.rows[j]'hjr).l := by
                      rw [← hmat, ← hRr]
                      simp [List.getD_eq_getElem?_getD, hjr]
                    have hl : (R.rows[j]'hjr).l.length = x.n := by
                      rw [← hmj]
                      have : (matOf x.ll).getD j [] = fromL x.ll j := by simp [matOf, List.getD_eq_getElem?_getD, hll, hj]
                      rw [this, from_len hv (by omega), hll]
                    refine ⟨hjr, hok, by rw [← hok.n, hl], hl, fun a ha => ?_⟩
                    unfold mat
                    rw [hmj]
                    simp [List.getD_eq_getElem?_getD, ha]
                  obtain ⟨hir, hiok, hin, hil, himat⟩ := rowi hlt
                  obtain ⟨hkr, hkok, hkn, hkll, hkmat⟩ := rowi hkl
                  have hone : ∀ {j : Nat} (hj : j < R.n) (hj' : j < R.rows.length), ∃ ad, R.a = some ad ∧ ∀ M, Rd I0 M (ad.add (j * 1)) 1 [(R.rows[j]'hj').val] := fun hj hj' => hR3.rs.one hj hj'
                  obtain ⟨ai, hai, hri⟩ := hone (j := i) (by omega) hir
                  obtain ⟨ak, hak, hrk⟩ := hone (j := k) (by omega) hkr
                  obtain ⟨ci, hci, hrci⟩ := hiok.rs.one (j := k) (by omega) (by omega)
                  obtain ⟨ck, hck, hrck⟩ := hkok.rs.one (j := i) (by omega) (by omega)
                  have hgk : partGo (matOf x.ll) i (x.n - i) i p [] = bif mat (matOf x.ll) i k && mat (matOf x.ll) k i then partGo (matOf x.ll) i (x.n - (k + 1)) (k + 1) (s.set k true) (q ++ [(k : Int)]) else partGo (matOf x.ll) i (x.n - (k + 1)) (k + 1) s q := by
                    rw [hpg, show x.n - k = (x.n - (k + 1)) + 1 from by omega, partGo]
                  rw [himat k (by omega), hkmat i (by omega)] at hgk
                  refine IdxOb.mk ai i hai rfl (by omega) ?_
                  refine LoadOb.mk _ (hri _) ?_
                  refine IdxOb.mk ci k hci rfl (by omega) ?_
                  refine LoadOb.mk _ (hrci _) ?_
                  refine GuardOb.mk (fun c1 => ?_) (fun c1 => ?_)
                  · refine IdxOb.mk ak k hak rfl (by omega) ?_
                    refine LoadOb.mk _ (hrk _) ?_
                    refine IdxOb.mk ck i hck rfl (by omega) ?_
                    refine LoadOb.mk _ (hrck _) ?_
                    refine CondOb.mk (fun c2 => ?_) (fun c2 => ?_)
                    · have hks : k < s.length := by omega
                      have e := boolRow_set s k hks true
                      refine IdxOb.mk ⟨b8, 0, none⟩ k rfl rfl hkl ?_
                      refine StoreOb.add (oq.blk 3 ++ os.blk 27) (psB ps) (s.map Value.bool).toArray 4 (by simp [boolRow]) ?_ rfl ?_
                      · simp only [List.size_toArray, List.length_map]
                        show 0 + k * 1 + 1 ≤ _
                        omega
                      refine AllocOb.mk fun b9 hb9 hbM9 => ?_
                      refine OtherOb.appendN TryzEOK rfl (by simp) (e := 3) rfl rfl rfl oq hoq rfl (m := 1) rfl (news := [.int .i64 k]) (by decide) (blk_rd (b := b9) (cs := [.int .i64 k]) (k := 0) (n := 1) (T := 3) (.head _) (by simp)) rfl (Mr := os.blk 27 ++ (((⟨b8, .cells (splice (s.map Value.bool) (0 + k * 1) [.bool true]).toArray 4 (0, 0)⟩ : Blk) :: psB ps) ++ [⟨b9, .cells #[.int .i64 k] 3 (0, 0)⟩])) (permE _ _ _ _) (by simp only [maxLen]; omega) (by show (oq.n + 1) * 8 ≤ _; omega) ?_
                      intro g' c' cur' q0 q1 q2 q3 q4
                      refine ArithOb.mk _ (next_wr (i := k) (by omega)) ?_
                      refine ⟨(k + 1, s.set k true, ⟨some g', oq.n + 1, c', cur'⟩, q ++ [(k : Int)]), ⟨⟨by simp only; omega, by simp only; omega, by simpa using hsl, ?_, by simp only [List.length_append, List.length_cons, List.length_nil]; omega, ?_⟩, by simp only; omega⟩, ?_, .cons .refl (.cons .refl (.cons .refl (.cons .refl (.cons .refl (.cons .refl (.cons .refl (.cons .refl (.cons .refl .nil)))))))), .nil⟩
                      · simp only
                        rw [List.map_append]
                        exact app1_ok hoq q1 q2 q3 q4
                      · simp only
                        rw [hgk, c1, c2]
                        rfl
                      · simp only [boolRow]
                        rw [← e]
                        simp only [Nat.zero_add, Nat.mul_one]
                        exact .sub (.cons_cons _ (List.Sublist.append_left (List.sublist_append_left _ _) _)) .refl
                    · refine ArithOb.mk _ (next_wr (i := k) (by omega)) ?_
                      refine ⟨(k + 1, s, oq, q), ⟨⟨by simp only; omega, by simp only; omega, hsl, hoq, by simp only; omega, ?_⟩, by simp only; omega⟩, .refl, .cons .refl (.cons .refl (.cons .refl (.cons .refl (.cons .refl (.cons .refl (.cons .refl (.cons .refl (.cons .refl .nil)))))))), .nil⟩
                      simp only
                      rw [hgk, c1, c2]
                      rfl
                  · refine ArithOb.mk _ (next_wr (i := k) (by omega)) ?_
                    refine ⟨(k + 1, s, oq, q), ⟨⟨by simp only; omega, by simp only; omega, hsl, hoq, by simp only; omega, ?_⟩, by simp only; omega⟩, .refl, .cons .refl (.cons .refl (.cons .refl (.cons .refl (.cons .refl (.cons .refl (.cons .refl (.cons .refl (.cons .refl .nil)))))))), .nil⟩
                    simp only
                    rw [hgk, c1]
                    rfl
                · have hge : x.n ≤ k := by simpa using h
                  have hpf : partGo (matOf x.ll) i (x.n - i) i p [] = (s, q) := by
                    rw [hpg, show x.n - k = 0 from by omega]
                    rfl
                  rw [hpf] at hgo1
                  refine AllocOb.mk fun b9 hb9 hbM9 => ?_
                  refine OtherOb.appendN TryzEOK rfl (by simp) (e := 27) rfl rfl rfl os hos rfl (m := 1) rfl (news := [oq.val]) (by decide) (blk_rd (b := b9) (cs := [oq.val]) (k := 0) (n := 1) (T := 27) (.head _) (by simp)) rfl (Mr := oq.blk 3 ++ ((boolRow b8 s :: psB ps) ++ [(⟨b9, .cells #[oq.val] 27 (0, 0)⟩ : Blk)])) (permF _ _ _ _) (by simp only [maxLen]; omega) (by show (os.n + 1) * 24 ≤ _; omega) ?_
                  intro g' c' cur' q0 q1 q2 q3 q4
                  refine ArithOb.mk _ (next_wr (i := i) (by omega)) ?_
                  refine ⟨(i + 1, s, ⟨some g', os.n + 1, c', cur'⟩, ps ++ [oq], ls ++ [q]), ⟨⟨by simp only; omega, hsl, ?_, hps.snoc hoq, by simp only [List.length_append, List.length_cons, List.length_nil]; omega, hgo1⟩, by simp only; omega⟩, ?_, .cons .refl (.cons .refl (.cons .refl (.cons .refl (.cons .refl (.cons .refl .nil))))), .nil⟩
                  · simp only
                    rw [List.map_append, List.map_cons, List.map_nil]
                    exact app1_ok hos q1 q2 q3 q4
                  · simp only
                    rw [psB_snoc]
                    exact .perm (permG _ _ _ _) (.sub (List.sublist_append_right [(⟨b9, .cells #[oq.val] 27 (0, 0)⟩ : Blk)] _) .refl)
          · have hge : x.n ≤ i := by simpa using h
            refine ⟨_, _, .sub (List.Sublist.append_left (List.sublist_cons_self _ _) _) .refl, fun b o h => hI20 _ _ (hI2 _ _ (hI1 _ _ h)), os, ps, rfl, hos, ?_, rfl⟩
            have e : roundsL x.ll = ls := by
              rw [hgo, show x.n - i = 0 from by omega]
              rfl
            rw [e]
            exact hps
end Go.V
