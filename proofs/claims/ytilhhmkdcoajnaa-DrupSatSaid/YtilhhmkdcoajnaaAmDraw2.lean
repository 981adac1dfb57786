/- A trace along a plan, by its places; what a region's execution in another order keeps; conditions: none. -/
import Derived.Test.YtilhhmkdcoajnaaAmDraw
set_option linter.unusedVariables false
set_option linter.unusedSimpArgs false
namespace Go.Proofs.Ytilhhmkdcoajnaa.Am
open Go
noncomputable section
theorem PY       : ∀ (m : Nat) (l : List Nat), l.Nodup → (∀ x ∈ l, x < m) → l.length ≤ m := by
  intro m
  induction m with
  | zero =>
    intro l _ h
    cases l with
    | nil=>simp
    | cons a l=>exact absurd (h a oH) (by omega)
  | succ m ih =>
    intro l hn h
    by_cases hm:m∈l
    · have h1:=ih (l.erase m) (hn.erase m) (fun x hx=>by
        have hx:=(hn.mem_erase_iff).1 hx
        have:=h x hx.2
        have:=hx.1
        omega)
      rw[List.length_erase_of_mem hm]at h1
      omega
    · have:=ih l hn (fun x hx=>by
        have:=h x hx
        have:x≠m:=fun e=>hm (e▸hx)
        omega)
      omega
theorem It.onto     {P : Program} {ops : Array Oper} {b : Array Nat} {π : List Nat} (h : It     P ops b π) {i : Nat} (hi : i < ops.size) : ∃ p : Nat, π[p]? = some i := by
  have hn:π.Nodup:=by
    refine List.pairwise_iff_getElem.2 ?_
    intro p q hp hq hpq e
    have:=h.inj p q (π[q]) (by rw[oM hp,e]) (oM hq)
    omega
  by_cases hm:i∈π
  · exact List.mem_iff_getElem?.1 hm
  · have hn' : (i :: π).Nodup := pt.2              ⟨hm, hn⟩
    have:=PY ops.size (i::π) hn' (fun x hx=>by
      rcases ov.1 hx with rfl | hx
      · exact hi
      · obtain⟨p,hp⟩:=List.mem_iff_getElem?.1 hx
        exact h.lt p x hp)
    simp only[oZ,h.len]at this
    omega
structure MP where
  R:Nat→CA
  st:Nat→ASt
  o:Nat→Oper
  sh:Nat→Sh
  want:Nat→Bool
  as:Nat→List AV
  v:Nat→AV
structure PT(P:Program)(F:Fns)(ops:Array Oper)(nt:Nat)(b:Array Nat)(π:List Nat)(D:MP):Prop where
  op:∀p i:Nat,π[p]? = some i→ops[i]? = some (D.o p)
  step:∀p,p<π.length→KT P F ops nt (D.R p) (D.st p) (D.o p) (D.sh p) (D.want p) (D.as p) (D.v p) (D.R (p+1)) (D.st (p+1))
  ag:∀p q i j:Nat,π[p]? = some i→π[q]? = some j→q<p→(D.sh p).isEff=true→D.want p=true→(D.sh q).isRead=true→(b.getD i 0).testBit j=false→D.want q=true →
    Eb (D.sh q) (D.as q) (D.st (p+1))=some (D.v q)
def HV{α:Type}(a:α)(f:Nat→α):Nat→α
  | 0=>a
  | p+1=>f p
theorem ab       {P : Program} {F : Fns} {ops : Array Oper} {nt : Nat} {b : Array Nat} {l : List Nat} {m : List Rec} {R R2 : CA}   {s s2 : ASt} (h : H9    P F ops nt b true l m R s R2 s2) :
    ∃D:MP,PT P F ops nt b l D∧D.R 0=R∧D.st 0=s∧D.R l.length=R2∧D.st l.length=s2 ∧
      (∀p i:Nat,l[p]? = some i→(D.sh p).isEff=true→D.want p=true→∀r∈m,(b.getD i 0).testBit r.idx=false→r.want=true→Eb r.sh r.as (D.st (p+1))=some r.v):=by
  induction h with
  | nil =>
    rename_i m R s
    exact⟨⟨fun _=>R,fun _=>s,fun _=>default,fun _=>.callv,fun _=>false,fun _=>[],fun _=>Au⟩,
      ⟨by intro p i h;simp at h,by intro p h;simp at h,by intro p q i j h;simp at h⟩,rfl,rfl,rfl,rfl,by intro p i h;simp at h⟩
  | cons ho hs ag hl ih =>
    rename_i i l m R R1 R2 s s1 s2 o sh want as v
    obtain⟨D,h1,h2,h3,h4,h5,h6⟩:=ih
    refine⟨⟨HV R D.R,HV s D.st,HV o D.o,HV sh D.sh,HV want D.want,HV as D.as,HV v D.v⟩,⟨?_,?_,?_⟩,rfl,rfl,h4,h5,?_⟩
    · intro p j hp
      cases p with
      | zero=>simp at hp;subst hp;exact ho
      | succ p=>exact h1.op p j (by simpa using hp)
    · intro p hp
      cases p with
      | zero=>simp only[HV,h2,h3];exact hs
      | succ p=>exact h1.step p (by simpa using hp)
    · intro p q j k hp hq hlt he hw hr ht hwq
      cases p with
      | zero=>omega
      | succ p =>
        cases q with
        | zero =>
          simp at hq
          subst hq
          simp only[HV]at hr hwq he hw ⊢
          refine h6 p j (by simpa using hp) he hw ⟨i,sh,as,v,want⟩ ?_ ht hwq
          rw[hr]
          exact oH
        | succ q=>exact h1.ag p q j k (by simpa using hp) (by simpa using hq) (by omega) he hw hr ht hwq
    · intro p j hp he hw r hr ht hwr
      cases p with
      | zero =>
        simp at hp
        subst hp
        simp only[HV,h3]at he hw ⊢
        exact ag rfl he hw r hr ht hwr
      | succ p =>
        refine h6 p j (by simpa using hp) he hw r ?_ ht hwr
        cases hb:(true && sh.isRead)with
        | true=>exact oJ _ hr
        | false=>exact hr
theorem Jp{sh:Sh}{as:List AV}{s:ASt}{v:AV}(h:Eb sh as s=some v):shL sh as s=some (v,s):=by
  cases sh with
  | r1 f =>
    cases as with
    | nil=>cases h
    | cons a l =>
      cases l with
      | nil=>have h:f s a=some v:=h;simp[shL,h,Dy]
      | cons=>cases h
  | r f=>have h:f s as=some v:=h;simp[shL,h,Dy]
  | _=>cases h
theorem Jn          {P : Program} {R : CA}   {o : Op} {sh : Sh} {xs : List Operand} {as : List AV} {s s1 : ASt} {v : AV} (hsh : BZ      P o = some (sh, xs)) (he : D8     R xs = some as) (hr : sh.isRead = true) (h : shL sh as s = some (v, s1)) :
    Eb sh as s=some v∧s1=s:=by
  have one:∀x:Operand,xs=[x]→∃a,as=[a]:=by
    intro x e
    subst e
    simp only[D8,oE]at he
    obtain⟨a,_,r,hr,he⟩:=he
    injection hr with hr
    injection he with he
    subst hr
    exact⟨a,he.symm⟩
  cases sh with
  | r1 f =>
    have:∃x,xs=[x]:=by
      cases o<;>first | (simp[BZ]at hsh;done) | skip
      case load t a=>injection hsh with hsh;injection hsh with h1 h2;exact⟨_,h2.symm⟩
      case convert src dst x=>injection hsh with hsh;injection hsh with h1 h2;exact⟨_,h2.symm⟩
      case makeMap t r=>cases r with
        | some _=>cases hsh
        | none=>injection hsh with hsh;injection hsh with h1 h2;cases h1
      case makeFunc fn first captured=>cases fn<;>first | (cases hsh;done) | (injection hsh with hsh;injection hsh with h1 h2;cases h1)
      case call c =>
        obtain⟨callee,args,argTypes⟩:=c
        simp only[BZ]at hsh
        split at hsh<;>first | (cases hsh;done) | skip
        split at hsh<;>first | (cases hsh;done) | skip
        all_goals (split at hsh<;>cases hsh)
    obtain⟨x,hx⟩:=this
    obtain⟨a,rfl⟩:=one x hx
    exact St h
  | r f=>exact Pp h
  | _=>cases hr
section
variable{P:Program}{ρ ρ1 ρ2:Rho}{s s1 s2:ASt}{w w1 w2:World}{R:CA}{a:Act}{ops:Array Oper}{rnd:Option Nat}{Q:Exit→Act→World→Prop}
theorem Lt{F:Fns}(h:Inv P ρ s w)(hf:ρ s.next=none){nt i:Nat}{o:Oper}{sh:Sh}{want:Bool}{as:List AV}{v:AV}{R1:CA}{K:Act→World→Prop}(ho:ops[i]? = some o)
    (hs:KT P F ops nt R s o sh want as v R1 s1) (hne:sh.isEff=false) (hr:Ew ρ R a.tmps) (hnt:nt≤a.tmps.size)
    (hk:∀v' w' ρ',Aa ρ' v v'→Inv P ρ' s1 w'→Fr ρ s w ρ' s1 w'→K (a.put o.dst v') w'):wpOpIn (fen rnd) 0 P ops Q i K a w:=by
  unfold wpOpIn
  rw[ho]
  simp only
  obtain⟨xs,hsh,has⟩:=hs.shape
  rw[NC hr hs.wants]
  cases want with
  | true =>
    simp only[if_true]
    refine⟨fun _ _=>trivial,?_⟩
    rw[Oper.semAt_eq _ _ _ (Mu hsh)]
    have hl:shL sh as s=some (v,s1):=by
      have:=hs.yes rfl
      cases sh<;>first | exact this | cases hne
    exact Mt (ip h hf hsh (JN hr has) hl).next hk
  | false =>
    simp only[Bool.false_eq_true,if_false]
    refine⟨fun _ _=>trivial,?_⟩
    obtain⟨rfl,rfl⟩:=hs.no rfl
    exact hk undef w ρ (Df ρ) h (Fr.refl _ _ _)
theorem Inv.same(h:Inv P ρ s w)(e:∀i rb,ρ i=some rb→s1.heap.get i=s.heap.get i):Inv P ρ s1 w:=
  ⟨fun i o rb hi hr=>h.obj i o rb (by rw[← e i rb hr];exact hi) hr,h.lt,
   fun i j oi oj ri rj hne hi hj hri hrj=>h.sep i j oi oj ri rj hne (by rw[← e i ri hri];exact hi) (by rw[← e j rj hrj];exact hj) hri hrj⟩
theorem GQ.same{b:Nat}(e:∀i rb,ρ i=some rb→s1.heap.get i=s.heap.get i)(h:GQ ρ s1 b):GQ ρ s b:=by
  obtain⟨i,o,rb,h1,h2,h3,h4⟩:=h
  exact⟨i,o,rb,by rw[← e i rb h3];exact h1,h2,h3,h4⟩
end
end
end Go.Proofs.Ytilhhmkdcoajnaa.Am
