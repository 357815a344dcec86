/-
  Walks: print.Tree (whole), print.Def, print.Grammar, print.Size.
-/
import Derived.Test.YtcccmnppfmfkiaaDoorWb
set_option linter.unusedVariables false
set_option linter.unusedSimpArgs false
namespace Go.V
open Go Go.Proofs

theorem V_frame {X : Ctx} {c : Code} {F : Fr} {C : Bx} {I : GH} {M : List Blk} {K : KX} {t1 t2 t3 : Nat} {a b d : SV} {e : Option (List Value)} (h : ∀ G GC, V X c (upd (upd (upd G t3 d) t2 b) t1 a) (updB GC t1 e) I M K)
    (h1 : F t1 = a) (h2 : F t2 = b) (h3 : F t3 = d) (h4 : C t1 = e) : V X c F C I M K := by
  have := h F C
  rwa [upd_self h3, upd_self h2, upd_self h1, updB_self h4] at this

theorem Tree_spec {I : GH} {deb : List Int} (hT : Tabs I deb) {t : Tr} (ht : t.ok I) (hn : t.n ≤ 1024) : Spec Tryd.prog 89 [t.val] I [] fun r I' M' => r = .string (strOf (treeB deb t)) ∧ (∀ b o, I b = some o → I' b = some o) ∧ M' = [] := by
  refine spec_of_V [3] TrydEOK Tryd.func89 rfl rfl rfl ?_
  intro B h0
  have hnl := ht.n
  cases hr : right t with
  | true =>
    have htb : treeB deb t = textOf deb t.ns t.root := by simp [treeB, hr]
    rw [htb]
    have hroot := right_root hr
    obtain ⟨r, hr0⟩ := Int.eq_ofNat_of_zero_le hroot.1
    have hrl : r < t.ns.length := by omega
    obtain ⟨ns, ta, tn, tc, root⟩ := t
    simp only at hr0
    subst hr0
    have hr0 : (⟨ns, ta, tn, tc, Int.ofNat r⟩ : Tr).root = Int.ofNat r := rfl
    refine CodeOb.scope TrydEOK rfl (fun y : Nat × TreeI => treeLP ⟨ns, ta, tn, tc, Int.ofNat r⟩ y.1 y.2) (fun _ => 0) (fun y => TreeInv I deb ⟨ns, ta, tn, tc, Int.ofNat r⟩ y.2) (fun y => muAll ns y.2.2.2.1) (fun _ => labelIn (scopeIn (Tryd.f89.body.getD .skip)) 0) (fun _ _ => ⟨by kernel_rfl, by kernel_rfl⟩) ?_ ?_
    · refine CallOb.mk [] [] _ (.refl _) (Right_spec hT.c ht) ?_
      rintro v I' M' - ⟨rfl, rfl, rfl⟩
      rw [hr]
      refine CondOb.mk (fun h => by cases h) (fun _ => ?_)
      refine AllocOb.mk fun g hg hgM => ?_
      refine AllocOb.mk fun g4 hg4 hgM4 => ?_
      refine V_frame (t1 := 1) (t2 := 3) (t3 := 4) (fun G GC => Tree_pass hT ht hr hn (p := fun l y => TreeInv _ deb ⟨ns, ta, tn, tc, Int.ofNat r⟩ y.2 ∧ 0 = l) (g := g) (Bd.new, ⟨some g4, 1, 1, openC (r, 0, false)⟩, [(r, 0, false)], I') ?_ (fun y hy _ => ⟨hy, rfl⟩) B h0 G GC) rfl rfl rfl rfl
      refine ⟨fun _ _ h => h, Bd.new_ok, ⟨rfl, (fun h => by cases h), fun g3 _ => ⟨rfl, Nat.le_refl _, by simp only [maxLen]; omega, rfl⟩⟩, by simp, ?_, ?_, ?_⟩
      · intro e he
        simp only [List.mem_singleton] at he
        subst he
        exact hrl
      · simp only [restAll, List.reverse_singleton, List.flatMap_cons, List.flatMap_nil, List.append_nil]
        have h9 := restE_new (deb := deb) hr hrl false
        simp only at h9 ⊢
        rw [h9]
        simp [Bd.new, paren]
      · have h1 := muE_new hr hrl false
        have h2 := wt_root hr
        simp only [Int.ofNat_eq_natCast] at h1 h2
        simp only [muAll, List.map_cons, List.map_nil, List.sum_cons, List.sum_nil]
        omega
    · rintro ⟨g, x⟩ hx
      refine V_frame (t1 := 1) (t2 := 3) (t3 := 4) (fun G GC => Tree_pass hT ht hr hn (g := g) x hx (fun y hy hlt => ⟨⟨hy, rfl⟩, hlt⟩) B h0 G GC) rfl rfl rfl rfl
  | false =>
    have htb : treeB deb t = [] := by simp [treeB, hr]
    rw [htb]
    refine CodeOb.scope TrydEOK rfl (ι := Empty) (fun e => nomatch e) (fun e => nomatch e) (fun e => nomatch e) (fun e => nomatch e) (fun _ => .skip) (fun e => nomatch e) ?_ (fun e => nomatch e)
    refine CallOb.mk [] [] _ (.refl _) (Right_spec hT.c ht) ?_
    rintro v I' M' - ⟨rfl, rfl, rfl⟩
    rw [hr]
    refine CondOb.mk (fun _ => ?_) (fun h => by cases h)
    exact ⟨_, _, .refl, rfl, fun _ _ h => h, rfl⟩

def Df.val (d : Df) : Value := .agg #[.string d.name, .slice d.t.a d.t.n d.t.c, .int .i64 d.t.root]
def defB (deb : List Int) (d : Df) : List UInt8 :=
  bif decide (strOf (treeB deb d.t) = ⟨#[]⟩) || !mayName d.name then [] else d.name.data.toList ++ [32, 60, 45, 32] ++ treeB deb d.t ++ [10]
theorem mayName_len {s : ByteArray} (h : mayName s = true) : s.size ≤ 32 := by
  unfold mayName at h
  simp only [Bool.and_eq_true, decide_eq_true_eq] at h
  omega
theorem defB_len (deb : List Int) (d : Df) : (defB deb d).length ≤ 37 + 2412 * d.t.ns.length := by
  have h1 := treeB_len deb d.t
  unfold defB
  cases hc : (decide (strOf (treeB deb d.t) = ⟨#[]⟩) || !mayName d.name) with
  | true => simp
  | false =>
    simp only [Bool.or_eq_false_iff, Bool.not_eq_false'] at hc
    have h2 := mayName_len hc.2
    have h3 : d.name.data.toList.length = d.name.size := rfl
    simp only [cond_false, List.length_append, List.length_cons, List.length_nil]
    omega
theorem Def_spec {I : GH} {deb : List Int} (hT : Tabs I deb) {d : Df} (hd : d.ok I) (hn : d.t.n ≤ 1024) : Spec Tryd.prog 84 [d.val] I [] fun r I' M' => r = .string (strOf (defB deb d)) ∧ (∀ b o, I b = some o → I' b = some o) ∧ M' = [] := by
  refine spec_of_V [] TrydEOK Tryd.func84 rfl rfl rfl ?_
  intro B h0
  refine CallOb.mk [] [] _ (.refl _) (Tree_spec hT hd.t hn) ?_
  rintro v I1 M1 - ⟨rfl, hI1, rfl⟩
  refine GuardOb.mk (fun h1 => ?_) (fun h1 => ?_)
  · refine CallOb.mk [] [] _ (.refl _) (NMay_spec _ d.name) ?_
    rintro v I' M' - ⟨rfl, rfl, rfl⟩
    refine CondOb.mk (fun h2 => ?_) (fun h2 => ?_)
    · refine ⟨_, _, .refl, ?_, hI1, rfl⟩
      have : defB deb d = [] := by
        unfold defB
        rw [h1, h2]
        rfl
      rw [this]
      rfl
    · have hm : mayName d.name = true := by simpa using h2
      have h2 := mayName_len hm
      have h3 : d.name.data.toList.length = d.name.size := rfl
      have h4 := treeB_len deb d.t
      have h5 := hd.t.n
      refine BinOb.concat (a := d.name) (b := strOf [32, 60, 45, 32]) (by show _ + 4 ≤ _; omega) ?_
      refine BinOb.concat (a := d.name ++ strOf [32, 60, 45, 32]) (b := strOf (treeB deb d.t)) (by rw [ByteArray.size_append]; show _ + 4 + (treeB deb d.t).length ≤ _; omega) ?_
      refine BinOb.concat (a := d.name ++ strOf [32, 60, 45, 32] ++ strOf (treeB deb d.t)) (b := strOf [10]) (by rw [ByteArray.size_append, ByteArray.size_append]; show _ + 4 + (treeB deb d.t).length + 1 ≤ _; omega) ?_
      refine ⟨_, _, .refl, ?_, hI1, rfl⟩
      refine congrArg Value.string (bytes_eq ?_)
      rw [defB, h1, hm]
      simp [strOf]
  · refine ⟨_, _, .refl, ?_, hI1, rfl⟩
    have : defB deb d = [] := by
      unfold defB
      rw [h1]
      rfl
    rw [this]
    rfl

def gramB (deb : List Int) : List Df → List UInt8 → List UInt8
  | [], acc => acc
  | d :: ds, acc => bif decide (strOf (defB deb d) = ⟨#[]⟩) then [] else gramB deb ds (acc ++ defB deb d)
theorem gramB_len (deb : List Int) : ∀ (ds : List Df) (acc : List UInt8) (m : Nat), (∀ d ∈ ds, d.t.ns.length ≤ 1024) → acc.length ≤ m → (gramB deb ds acc).length ≤ m + 2500000 * ds.length
  | [], acc, m, _, h => by simpa [gramB] using h
  | d :: ds, acc, m, hd, h => by
    have h1 := defB_len deb d
    have h2 := hd d (by simp)
    have h3 := gramB_len deb ds (acc ++ defB deb d) (m + 2500000) (fun x hx => hd x (by simp [hx])) (by rw [List.length_append]; omega)
    unfold gramB
    cases decide (strOf (defB deb d) = ⟨#[]⟩)
    · simp only [cond_false, List.length_cons]
      omega
    · simp
theorem Grammar_spec {I : GH} {deb : List Int} (hT : Tabs I deb) {g : Gr} (hg : g.ok I) (hn : g.n ≤ 64) (ht : ∀ d ∈ g.ds, d.t.n ≤ 1024) : Spec Tryd.prog 72 [g.val] I [] fun r I' M' => r = .string (strOf (gramB deb g.ds [])) ∧ (∀ b o, I b = some o → I' b = some o) ∧ M' = [] := by
  refine spec_of_V [3] TrydEOK Tryd.func72 rfl rfl rfl ?_
  intro B h0
  have hgn := hg.n
  have htl : ∀ d ∈ g.ds, d.t.ns.length ≤ 1024 := fun d hd => by rw [(hg.ds d hd).t.n]; exact ht d hd
  refine AllocOb.mk fun b hb hbM => ?_
  refine LoopOb.inv (ι := Nat × Bd × GH) (fun p => { fl := [(3, .val (ptr b)), (8, .val (.slice g.a g.n g.c)), (9, .val (.int .i64 g.n)), (10, .val (.int .i64 p.1))], gi := p.2.2, mi := p.2.1.M b })
    (fun p => p.1 ≤ g.n ∧ p.2.1.ok ∧ (∀ b o, I b = some o → p.2.2 b = some o) ∧ p.2.1.bs.length ≤ 2500000 * p.1 ∧ gramB deb g.ds [] = gramB deb (g.ds.drop p.1) p.2.1.bs) (fun p => g.n - p.1) ?_ ?_
  · exact ⟨(0, Bd.new, I), ⟨by simp, Bd.new_ok, fun _ _ h => h, by simp [Bd.new], rfl⟩, .refl, .cons .refl (.cons .refl (.cons .refl (.cons .refl .nil))), .nil⟩
  · rintro ⟨i, x, I1⟩ ⟨hi, hx, hI1, hxl, hxb⟩
    simp only at hi hx hI1 hxl hxb
    refine CondOb.mk (fun h => ?_) (fun h => ?_)
    · have hlt : i < g.n := by simpa using h
      have hlt' : i < g.ds.length := by omega
      have hg1 := hg.mono hI1
      obtain ⟨ad, had, hrd⟩ := hg1.rs.row Df.cells_len hlt hlt'
      have hdm : g.ds[i] ∈ g.ds := List.getElem_mem hlt'
      have hdl := defB_len deb g.ds[i]
      have h9 := htl _ hdm
      have hdrop : g.ds.drop i = g.ds[i] :: g.ds.drop (i + 1) := List.drop_eq_getElem_cons hlt'
      refine IdxOb.mk ad i had rfl hlt ?_
      refine LoadOb.mk _ (hrd _) ?_
      refine CallOb.mk [] (x.M b) _ (.refl _) (Def_spec (hT.mono hI1) (hg1.ds _ hdm) (ht _ hdm)) ?_
      rintro v I2 M2 - ⟨rfl, hI2, rfl⟩
      refine CondOb.mk (fun h1 => ?_) (fun h1 => ?_)
      · refine ⟨_, _, .sub (List.nil_sublist _) .refl, ?_, fun b o h => hI2 _ _ (hI1 _ _ h), rfl⟩
        rw [hxb, hdrop, gramB, h1]
        rfl
      · refine CallOb.mk (x.M b) [] _ (by simp) (WriteString_spec b hx _ (by show _ + (defB deb g.ds[i]).length ≤ _; omega)) ?_
        rintro v I' M' - ⟨rfl, rfl, y, hy, hyb, rfl⟩
        have hyb' : y.bs = x.bs ++ defB deb g.ds[i] := hyb
        have hwr : IntKind.i64.wrap ((i : Int) + 1) = ((i + 1 : Nat) : Int) := by
          rw [wrap_i64 ⟨by omega, by omega⟩]
          omega
        refine ArithOb.mk _ hwr ?_
        refine ⟨(i + 1, y, _), ⟨⟨by simp only; omega, hy, fun b o h => hI2 _ _ (hI1 _ _ h), ?_, ?_⟩, by simp only; omega⟩, .perm (by simp) .refl, .cons .refl (.cons .refl (.cons .refl (.cons .refl .nil))), .nil⟩
        · simp only
          rw [hyb', List.length_append]
          omega
        · simp only
          rw [hxb, hdrop, gramB, h1, hyb']
          rfl
    · have hge : g.n ≤ i := by simpa using h
      have hdn : g.ds.drop i = [] := List.drop_eq_nil_of_le (by omega)
      refine CallOb.mk (x.M b) [] _ (by simp) (BString_spec b hx (by omega)) ?_
      rintro v I' M' - ⟨rfl, rfl, rfl⟩
      refine ⟨_, _, .refl, ?_, hI1, by simp⟩
      rw [hxb, hdn]
      rfl
theorem PSize_spec {I : GH} {deb : List Int} (hT : Tabs I deb) {g : Gr} (hg : g.ok I) (hn : g.n ≤ 64) (ht : ∀ d ∈ g.ds, d.t.n ≤ 1024) : Spec Tryd.prog 60 [g.val] I [] fun r I' M' => r = .int .i64 ((gramB deb g.ds []).length : Int) ∧ (∀ b o, I b = some o → I' b = some o) ∧ M' = [] := by
  refine spec_of_V [] TrydEOK Tryd.func60 rfl rfl rfl ?_
  intro B h0
  refine CallOb.mk [] [] _ (.refl _) (Grammar_spec hT hg hn ht) ?_
  rintro v I' M' - ⟨rfl, hI, rfl⟩
  exact ⟨_, _, .refl, rfl, hI, rfl⟩
end Go.V
