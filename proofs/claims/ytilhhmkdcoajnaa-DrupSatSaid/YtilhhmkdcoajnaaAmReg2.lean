/- Regions whose order is that of the text; conditions: none. -/
import Derived.Test.YtilhhmkdcoajnaaAmReg
set_option linter.unusedVariables false
set_option linter.unusedSimpArgs false
namespace Go.Proofs.Ytilhhmkdcoajnaa.Am
open Go
noncomputable section
section
variable{P:Program}{ρ ρ1 ρ2:Rho}{s s1 s2:ASt}{w w1 w2:World}{R:CA}{a:Act}{ops:Array Oper}{rnd:Option Nat}{Q:Exit→Act→World→Prop}
theorem Jd{n:Nat}{f:FuncId}{args:Array Value}{Rr:Ending→World→Prop}(h:CallsIn Fence.wide n P f args w Rr):CallsIn (fen rnd) n P f args w Rr:=h
theorem Pj{n l:Nat}{f:FuncId}{tmps:Array Value}{assign body:Code}{Rr:Ending→World→Prop}(h:RoundIn Fence.wide n P l f tmps assign body w Rr):RoundIn (fen rnd) n P l f tmps assign body w Rr:=h
theorem Bb.step(h:Bb ρ s)(k:Fr ρ s w ρ1 s1 w1):Bb ρ1 s1:=fun i hi =>
  ⟨k.fresh i (h i (oS k.next hi)).1 (.inr hi),(k.unborn i (h i (oS k.next hi)).1 (.inr hi)).trans (h i (oS k.next hi)).2⟩
theorem Mt{o:Oper}{v:AV}{K:Act→World→Prop}{r:Result Next}(h:Dj P ρ s w v s1 r)
    (hk:∀v' w' ρ',Aa ρ' v v'→Inv P ρ' s1 w'→Fr ρ s w ρ' s1 w'→K (a.put o.dst v') w'):o.uponIn (fen rnd) 0 P a K Q r:=by
  cases h with
  | value hv hi hf=>exact hk _ _ _ hv hi hf
  | skip hv hi hf=>exact hk _ _ _ hv hi hf
  | enter h =>
    refine⟨fun e=>(by cases e),Jd (CallsIn.mono h ?_)⟩
    intro e w' he
    cases e with
    | returned v'=>obtain⟨ρ',h1,h2,h3⟩:=he;exact hk _ _ _ h1 h2 h3
    | panicked c=>exact he.elim
    | outgrown=>exact he.elim
  | round h =>
    refine⟨fun e=>(by cases e),Pj (RoundIn.mono h ?_)⟩
    intro e w' he
    cases e with
    | returned v'=>obtain⟨ρ',h1,h2,h3⟩:=he;exact hk _ _ _ h1 h2 h3
    | panicked c=>exact he.elim
    | outgrown=>exact he.elim
theorem Mu{o:Oper}{x:Sh×List Operand}(h:BZ P o.op=some x):∀c,o.op≠.defer c:=by
  intro c e
  rw[e]at h
  simp[BZ]at h
theorem T9{F:Fns}(hF:FOk P F)(h:Inv P ρ s w)(hf:Bb ρ s){nt i:Nat}{o:Oper}{sh:Sh}{want:Bool}{as:List AV}{v:AV}{R1:CA}{K:Act→World→Prop}(ho:ops[i]? = some o)
    (hs:KT P F ops nt R s o sh want as v R1 s1) (hr:Ew ρ R a.tmps) (hnt:nt≤a.tmps.size)
    (hk:∀v' w' ρ',Aa ρ' v v'→Inv P ρ' s1 w'→Fr ρ s w ρ' s1 w'→K (a.put o.dst v') w'):wpOpIn (fen rnd) 0 P ops Q i K a w:=by
  unfold wpOpIn
  rw[ho]
  simp only
  obtain⟨xs,hsh,has⟩:=hs.shape
  rw[NC hr hs.wants]
  cases want with
  | true =>
    simp only[if_true]
    refine⟨fun _ _=>trivial,?_⟩
    rw[Oper.semAt_eq _ _ _ (Mu hsh)]
    exact Mt (VV hF h hf (fun _=>rfl) hsh (JN hr has) (hs.yes rfl)) hk
  | false =>
    simp only[Bool.false_eq_true,if_false]
    refine⟨fun _ _=>trivial,?_⟩
    obtain⟨rfl,rfl⟩:=hs.no rfl
    exact hk undef w ρ (Df ρ) h (Fr.refl _ _ _)
theorem VY        {F : Fns} (hF : FOk P F) {nt : Nat} {b : Array Nat} {draw : Bool} {R2 : CA}   :
    ∀ {l:List Nat} {m:List Rec} {R:CA} {s:ASt} {ρ:Rho} {a:Act} {w:World},H9 P F ops nt b draw l m R s R2 s2→Inv P ρ s w→Bb ρ s→Ew ρ R a.tmps→nt≤a.tmps.size →
      (∀a' w' ρ',Inv P ρ' s2 w'→Bb ρ' s2→Fr ρ s w ρ' s2 w'→Ew ρ' R2 a'.tmps→a'.tmps.size=a.tmps.size→a'.defers=a.defers→Q .normal a' w') →
      wpOpsIn (fen rnd) 0 P ops Q l a w:=by
  intro l
  induction l with
  | nil =>
    intro m R s ρ a w ht h hf hr hnt hq
    cases ht
    exact hq a w ρ h hf (Fr.refl _ _ _) hr rfl rfl
  | cons i l ih =>
    intro m R s ρ a w ht h hf hr hnt hq
    cases ht with
    | cons ho hs ag hl =>
      rename_i R1 s1 o sh want as v
      rw[wpOpsIn_cons]
      refine T9 hF h hf ho hs hr hnt ?_
      intro v' w' ρ' h1 h2 h3
      refine ih hl h2 (hf.step h3) ?_ (by rw[Fb];exact hnt) ?_
      · rw[hs.put]
        exact(hr.mono h3.le).put (fun t e=>oh (hs.lt t e) hnt) h1
      · intro a' w'' ρ'' g1 g2 g3 g4 g5 g6
        exact hq a' w'' ρ'' g1 g2 (h3.trans g3) g4 (by rw[g5,Fb]) (by rw[g6,Lk])
end
end
end Go.Proofs.Ytilhhmkdcoajnaa.Am
