/- copy, clear, maps; conditions: none. -/
import Derived.Test.YtilhhmkdcoajnaaAmOps2
set_option linter.unusedVariables false
set_option linter.unusedSimpArgs false
namespace Go.Proofs.Ytilhhmkdcoajnaa.Am
open Go
noncomputable section
section
variable{P:Program}{ρ ρ1 ρ2:Rho}{s s1 s2:ASt}{w w1 w2:World}
theorem MG(h:Inv P ρ s w){i o n size len:Nat}{cap:Option Nat}{x':Value}{l:List AV}(hx:Aa ρ (.slice (some (i,o)) len cap) x')(hn:n≤len)(hl:loadN s i o (n * size)=some l):
    ∃l':List Value,AU ρ l l'∧l'.length=n * size∧∀w1:World,w1.heap=w.heap→(Builtin.firstCells size n x').run P w1=.ok l'.toArray w1:=by
  obtain⟨rb,ad,c,hr,hv,hlc,hexact,hopen⟩:=Cz hx
  subst hv
  obtain⟨l',e1,e2,e3⟩:=EL h hr hl
  refine⟨l',e1,e2,fun w1 hw1=>?_⟩
  cases cap with
  | some c0=>obtain⟨_,rfl⟩:=hexact c0 rfl;exact e3 w1 hw1
  | none =>
    rcases(hopen rfl).2 with⟨rfl,_⟩ | ⟨rfl,_⟩
    · exact e3 w1 hw1
    · have h0:n=0:=by omega
      subst h0
      have:l'=[]:=by simpa using e2
      subst this
      simp[Builtin.firstCells,E6]
theorem Im(h:Inv P ρ s w){i o len size n:Nat}{cap:Option Nat}{ad:Addr}{c:Nat}{vs:List AV}{vs':List Value}(hx:Aa ρ (.slice (some (i,o)) len cap) (.slice (some ad) len c))
    (hv:AU ρ vs vs') (hlen:len=0→vs=[]) (hs:CJ s i o vs=some s1):∃w1,(storeCells ad vs').run P w=.ok () w1∧Inv P ρ s1 w1∧Fr ρ s w ρ s1 w1:=by
  obtain⟨rb,ad0,c0,hr,hv0,hlc,hexact,hopen⟩:=Cz hx
  injection hv0 with q1 q2 q3
  injection q1 with q1
  subst q1;subst q3
  have exq:ad=⟨rb.b,rb.off+o,none⟩→∃w1,(storeCells ad vs').run P w=.ok () w1∧Inv P ρ s1 w1∧Fr ρ s w ρ s1 w1:=by
    intro e;subst e;exact HG h hr hs hv
  cases cap with
  | some c0=>exact exq (hexact c0 rfl).2
  | none =>
    rcases(hopen rfl).2 with⟨e,_⟩ | ⟨e,_⟩
    · exact exq e
    · have:=hlen e
      subst this
      cases hv
      simp[CJ]at hs
      subst hs
      exact⟨w,rfl,h,Fr.refl _ _ _⟩
theorem ZK       (h : Inv P ρ s w) {tys : Array TypeId} {ty : TypeId} {args : List AV} {v : AV} {args' : Array Value} (hs : ZJ    P s tys.toList args = some (v, s1)) (ha : AU    ρ args args'.toList) :
    TG P ρ s w (Builtin.copy_ tys ty args') v s1:=by
  obtain⟨tyl⟩:=tys
  obtain⟨argl⟩:=args'
  simp only at hs ha
  unfold ZJ at hs
  split at hs<;>first | (cases hs;done) | skip
  rename_i dt tl a dl cap x
  cases ha with
  | cons ha hb =>
  rename_i a' l1
  cases hb with
  | cons hx hnil =>
  rename_i x' l2
  cases hnil
  split at hs<;>first | (cases hs;done) | skip
  rename_i e hu
  simp only[oE]at hs
  obtain⟨size,hsize,sl,hsl,cells,hcells,s',hst,hs⟩:=hs
  injection hs with hs
  injection hs with hs1 hs2
  subst hs1;subst hs2
  have hmin : (bif Nat.ble sl dl then sl else dl) = Nat.min sl dl := by
    cases hb:Nat.ble sl dl with
    | true => have : sl ≤ dl := by simpa [oQ]         using hb
              simp only[cond_true];exact(pj this).symm
    | false => have : dl ≤ sl := by
                 rcases Nat.le_total sl dl with h' | h'
                 · rw[Nat.ble_eq_true_of_le h']at hb;cases hb
                 · exact h'
               simp only[cond_false];exact(Nat.min_eq_right this).symm
  rw[hmin]at hcells ⊢
  have hlen:(Builtin.lenOf x').run P w=.ok sl w:=by
    split at hsl<;>first | (cases hsl;done) | skip
    · injection hsl with hsl;subst hsl
      cases hx<;>rfl
    · injection hsl with hsl;subst hsl
      cases hx with
      | str he=>subst he;rw[Fs];rfl
  have hsrc:∃l':List Value,AU ρ cells l'∧(Builtin.firstCells size (Nat.min sl dl) x').run P w=.ok l'.toArray w∧(Nat.min sl dl=0→cells=[]):=by
    split at hcells<;>first | (cases hcells;done) | skip
    · injection hcells with hcells;subst hcells
      cases hx
      exact⟨[],.nil,rfl,fun _=>rfl⟩
    · simp only [Option.some.injEq] at hsl
      subst hsl
      obtain⟨l',e1,e2,e3⟩:=MG h hx (Nat.min_le_left _ _) hcells
      refine⟨l',e1,e3 w rfl,fun h0=>?_⟩
      have:=e1.length
      rw[e2,show min _ dl=0 from h0,Nat.zero_mul]at this
      exact List.eq_nil_of_length_eq_zero this
    · rename_i l
      obtain⟨hg,hcells⟩:=AJ hcells
      injection hcells with hcells;subst hcells
      cases hx with
      | str he =>
        rename_i b
        subst he
        refine⟨((b.extract 0 (Nat.min sl dl)).data.map fun b=>Value.int .u8 b.toNat).toList,?_,by simp only[Builtin.firstCells,Array.toArray_toList,Sem.run_pure],fun h0=>by rw[h0];rfl⟩
        have hk:∀l:List UInt8,AU ρ ((FY l).map fun b=>AV.int .u8 (.ofNat b)) (l.map fun b=>Value.int .u8 b.toNat):=by
          intro l
          induction l with
          | nil=>exact .nil
          | cons a l ih=>exact .cons (.int _ _) ih
        have:=hk (b.extract 0 (Nat.min sl dl)).data.toList
        rw[IK]at this
        simpa using this
  obtain⟨l',e1,e2,e3⟩:=hsrc
  have hrun:∀ (base:Option Addr) (c:Nat),a'=.slice base dl c→∀w1,(match base with | some ad=>storeCells ad l' | none=>pure ()).run P w=.ok () w1 →
      (Builtin.copy_ ⟨dt::tl⟩ ty ⟨[a',x']⟩).run P w=.ok (.int .i64 (Nat.min sl dl:Nat)) w1:=by
    intro base c hb w1 hw1
    subst hb
    cases base with
    | none =>
      simp only[Sem.run_pure]at hw1
      injection hw1 with _ hw1
      subst hw1
      simp[Builtin.copy_,AL hu,hlen,BH hsize,e2,goInt]
    | some ad =>
      simp only at hw1
      simp[Builtin.copy_,AL hu,hlen,BH hsize,e2,hw1,goInt]
  cases a with
  | none =>
    simp only[Option.some.injEq]at hst
    subst hst
    cases ha
    exact⟨_,_,ρ,hrun none 0 rfl w rfl,.int _ _,h,Fr.refl _ _ _⟩
  | some io =>
    obtain⟨i,o⟩:=io
    simp only at hst
    obtain⟨rb,ad,c,hr,hv,_⟩:=Cz ha
    subst hv
    obtain⟨w1,k1,k2,k3⟩:=Im (size:=0) (n:=0) h ha e1 (fun h0=>e3 (by subst h0;exact Nat.min_zero _)) hst
    exact⟨_,w1,ρ,hrun (some ad) c rfl w1 k1,.int _ _,k2,k3⟩
theorem M5(ρ:Rho){t:TypeId}{z:AV}(h:B9 P t=some z):∃v,(∀w,(zeroValue t).run P w=.ok v w)∧Aa ρ z v:=by
  unfold B9 at h
  split at h
  · split at h
    · rename_i i hi _ v hv
      exact⟨v,fun w=>by simp[zeroValue,typeInfo,hi,hv],B1 ρ h⟩
    · cases h
  · cases h
theorem UQ(h:Inv P ρ s w){tys:Array TypeId}{ty:TypeId}{args:List AV}{v:AV}{args':Array Value}(hs:Ez P s tys.toList args=some (v,s1))(ha:AU ρ args args'.toList):
    TG P ρ s w (Builtin.clear_ tys ty args') v s1:=by
  obtain⟨tyl⟩:=tys
  obtain⟨argl⟩:=args'
  simp only at hs ha
  unfold Ez at hs
  split at hs<;>first | (cases hs;done) | skip
  rename_i t tl x
  cases ha with
  | cons hx hb =>
  rename_i x' l1
  cases hb
  split at hs<;>first | (cases hs;done) | skip
  · rename_i e n cap hu
    injection hs with hs
    injection hs with hs1 hs2
    subst hs1;subst hs2
    cases hx
    exact⟨_,w,ρ,by simp[Builtin.clear_,AL hu];rfl,Df ρ,h,Fr.refl _ _ _⟩
  · have hu:=‹P.underlying t=some (TypeDesc.slice _)›
    injection hs with hs
    injection hs with hs1 hs2
    subst hs1;subst hs2
    cases hx<;>exact⟨_,w,ρ,by simp[Builtin.clear_,AL hu];rfl,Df ρ,h,Fr.refl _ _ _⟩
  · rename_i e i o n cap hn hu
    simp only[oE]at hs
    obtain⟨z,hz,s',hst,hs⟩:=hs
    injection hs with hs
    injection hs with hs1 hs2
    subst hs1;subst hs2
    obtain⟨z',hz1,hz2⟩:=M5 ρ hz
    obtain⟨rb,ad,c,hr,hv,_⟩:=Cz hx
    subst hv
    have hl:=hz2.cells.length
    obtain⟨w1,k1,k2,k3⟩:=Im (size:=0) (n:=0) h hx (HX hz2 rfl (by simpa using hl.symm) n) (fun h0=>by subst h0;rfl) hst
    refine⟨_,w1,ρ,?_,Df ρ,k2,k3⟩
    cases n with
    | zero=>exact absurd rfl hn
    | succ n=>simp[Builtin.clear_,AL hu,hz1,k1,undef]
theorem DO{t:TypeId}{k:AV}{k':Value}(h:B3 P t k=true)(hk:Aa ρ k k')(e:Bool)(n:Nat):(Instr.checkKey e (n+1) t k').run P w=.ok () w:=by
  unfold B3 at h
  split at h<;>first | (cases h;done) | skip
  · split at h<;>first | (cases h;done) | skip
    rename_i hu
    cases hk
    simp[Instr.checkKey,AL hu]
  · split at h<;>first | (cases h;done) | skip
    rename_i hu
    cases hk
    simp[Instr.checkKey,AL hu]
theorem Dr{t:TypeId}{k:AV}(h:B3 P t k=true):∃d,P.underlying t=some d∧((∃kd kd' n,d=.int kd'∧k=.int kd n)∨(d=.string∧∃l,k=.str l)):=by
  unfold B3 at h
  split at h<;>first | (cases h;done) | skip
  · split at h<;>first | (cases h;done) | skip
    rename_i hu
    exact⟨_,hu,.inl ⟨_,_,_,rfl,rfl⟩⟩
  · split at h<;>first | (cases h;done) | skip
    rename_i hu
    exact⟨_,hu,.inr ⟨rfl,_,rfl⟩⟩
theorem Zd       {t : TypeId} {k k0 : AV} {k' k0' : Value} {b : Bool} (hsk : B3        P t k = true) (hb : LT    k k0 = some b) (hk : Aa   ρ k k') (hk0 : Aa   ρ k0 k0') :
    ∀d,P.underlying t=some d→Instr.sameNow d k' k0'=some b∧(b=true→k0'=k'):=by
  intro d hd
  obtain⟨d',hd',hc⟩:=Dr hsk
  rw[hd]at hd'
  injection hd' with hd'
  subst hd'
  rcases hc with⟨kd,kd',n,rfl,rfl⟩ | ⟨rfl,l,rfl⟩
  · cases k0<;>first | (simp[LT]at hb;done) | skip
    rename_i kd2 n2
    simp only[LT]at hb
    obtain⟨hg,hb2⟩:=AJ hb
    clear hb
    injection hb2 with hb2
    have:=FQ hg
    clear hg
    subst this
    cases hk;cases hk0
    rw[F2]at hb2
    subst hb2
    refine⟨by simp[Instr.sameNow],fun e=>?_⟩
    have:n=n2:=by simpa using e
    rw[this]
  · cases k0<;>first | (simp[LT]at hb;done) | skip
    rename_i l2
    simp only[LT,Option.some.injEq]at hb
    cases hk with
    | str h1 =>
    cases hk0 with
    | str h2 =>
      rename_i s1 s2
      subst h1;subst h2
      rw[Ht]at hb
      have hq:(s1.data == s2.data)=b:=by
        rw[← hb,Bool.eq_iff_iff,beq_iff_eq,beq_iff_eq]
        exact⟨fun e=>by rw[e],fun e=>Array.ext' e⟩
      refine⟨congrArg some (show(s1 == s2)=b from hq),fun e=>?_⟩
      subst e
      have:s1.data=s2.data:=by simpa using hq
      cases s1;cases s2
      simp only at this
      rw[this]
theorem LE       {t : TypeId} {k : AV} {k' : Value} {d : TypeDesc} (hd : P.underlying t = some d) (hsk : B3        P t k = true) (hk : Aa   ρ k k') :
    ∀ {es:List (AV×AV×Nat)} {es':List MapEntry} {i:Nat} {r:Option (Nat×AV×Nat)},Do k es i=some r→Ed ρ es es' →
      match r with
      | none=>Instr.findNow d k' es' i=some none
      | some (j,v,b)=>∃v' e' m,Instr.findNow d k' es' i=some (some (j,v'))∧Aa ρ v v'∧j=i+m∧es'[m]? = some e'∧e'.key=k'∧e'.val=v':=by
  intro es es' i r h he
  induction he generalizing i r with
  | nil=>simp[Do]at h;subst h;rfl
  | cons hk0 hv hb hs ih =>
    rename_i k0 v0 b0 e0 l l'
    simp only[Do,oE]at h
    obtain⟨b,hb',h⟩:=h
    obtain⟨h1,h2⟩:=Zd hsk hb' hk hk0 d hd
    cases b with
    | true =>
      simp only[Option.some.injEq]at h
      subst h
      exact⟨e0.val,e0,0,by simp[Instr.findNow,h1],hv,rfl,rfl,h2 rfl,rfl⟩
    | false =>
      simp only at h
      have:=ih h
      cases r with
      | none=>simpa[Instr.findNow,h1]using this
      | some q =>
        obtain⟨j,v,b⟩:=q
        obtain⟨v',e',m,q1,q2,q3,q4,q5,q6⟩:=this
        exact⟨v',e',m+1,by simp[Instr.findNow,h1,q1],q2,by omega,by simpa using q4,q5,q6⟩
theorem De{t:TypeId}{k':Value}{d:TypeDesc}{es':List MapEntry}{r:Option (Nat×Value)}(hd:P.underlying t=some d)(h:Instr.findNow d k' es' 0=some r):
    (Instr.findKey t k' es').run P w=.ok r w:=by simp[Instr.findKey,AL hd,h]
theorem FC{b:Nat}{es:Array MapEntry}{c:Nat}(h:w.heap[b]? = some (.map es c)):(getObj b).run P w=.ok (.map es c) w:=by simp[getObj,Sem.run,h]
theorem F9{b:Nat}{es:Array MapEntry}{c:Nat}(o:Obj)(h:w.heap[b]? = some (.map es c)):(Go.setObj b o).run P w=.ok () { w with heap:=w.heap.setIfInBounds b o }:=by simp[Go.setObj,Sem.run,h]
theorem SZ         (h : Inv P ρ s w) {t : TypeId} {m k v : AV} {m' k' : Value} {ok : Bool} (hs : C6      P s t m k ok = some v) (hm : Aa   ρ m m') (hk : Aa   ρ k k') :
    ∃v',(Instr.lookup t m' k' ok).run P w=.ok v' w∧Aa ρ v v':=by
  unfold C6 at hs
  split at hs<;>first | (cases hs;done) | skip
  rename_i kt et hu
  obtain⟨hsk,hg⟩:=AJ hs
  clear hs
  simp only[oE]at hg
  obtain⟨es,hes,r,hf,p,hp,hg⟩:=hg
  injection hg with hg
  obtain⟨d,hd,_⟩:=Dr hsk
  have hent:∃es':Array MapEntry,Ed ρ es es'.toList∧(∀f:Array MapEntry→Sem Value,(do
      let es ← match m' with
        | .map none=>pure #[]
        | .map (some r)=>do
          let .map es _ ← getObj r | stuck "Lookup: map expected"
          pure es
        | _ => stuck "Lookup: map expected"
      f es:Sem Value).run P w=(f es').run P w):=by
    split at hes<;>first | (cases hes;done) | skip
    · injection hes with hes;subst hes
      cases hm
      exact⟨#[],.nil,fun f=>by simp⟩
    · split at hes<;>first | (cases hes;done) | skip
      rename_i i _ es0 clock hget
      injection hes with hes;subst hes
      cases hm with
      | map hr =>
        rename_i rb
        obtain⟨es',e1,e2⟩:∃es':Array MapEntry,w.heap[rb.b]? = some (Obj.map es' clock)∧Ed ρ es0 es'.toList:=h.obj i _ rb hget hr
        exact⟨es',e2,fun f=>by simp[FC e1]⟩
  obtain⟨es',he,hrun⟩:=hent
  have hck:=fun(w:World)=>DO (w:=w) hsk hk es'.isEmpty 9999
  have hfk:=LE hd hsk hk hf he
  have main:∃v':Value,Aa ρ p.1 v'∧(Instr.lookup t m' k' ok).run P w=.ok (if ok then .tuple #[v',.bool p.2]else v') w:=by
    unfold Instr.lookup
    rw[Sem.run_bind,AL hu]
    simp only[Result.andThen_ok]
    cases r with
    | none =>
      simp only at hfk
      simp only[oE]at hp
      obtain⟨z,hz,hp⟩:=hp
      injection hp with hp;subst hp
      obtain⟨z',hz1,hz2⟩:=M5 ρ hz
      refine⟨z',hz2,?_⟩
      refine(hrun _).trans ?_
      simp[hck w,De hd hfk,hz1]
    | some q =>
      obtain⟨j,v0,b⟩:=q
      simp only[Option.some.injEq]at hp
      subst hp
      obtain⟨v',e',m,q1,q2,_⟩:=hfk
      refine⟨v',q2,?_⟩
      refine(hrun _).trans ?_
      simp[hck w,De hd q1]
  obtain⟨v',m1,m2⟩:=main
  refine⟨_,m2,?_⟩
  subst hg
  cases ok with
  | true=>exact .tuple (.cons m1 (.cons (.bool _) .nil))
  | false=>exact m1
theorem Ed.setNth{es:List (AV×AV×Nat)}{es':List MapEntry}(h:Ed ρ es es'){v:AV}{k' v':Value}(hv:Aa ρ v v'):∀ {m:Nat}{e':MapEntry},es'[m]? = some e'→e'.key=k' →
    Ed ρ (setNth es m v) (es'.modify m fun e=>{ e with key:=k',val:=v' }):=by
  induction h with
  | nil=>intro m e' h1;simp at h1
  | cons hk0 hv0 hb0 hs ih =>
    intro m e' h1 h2
    cases m with
    | zero =>
      simp at h1
      subst h1
      subst h2
      exact .cons hk0 hv hb0 hs
    | succ m=>exact .cons hk0 hv0 hb0 (ih (by simpa using h1) h2)
theorem Ed.delNth{es:List (AV×AV×Nat)}{es':List MapEntry}(h:Ed ρ es es'):∀ (m:Nat),Ed ρ (delNth es m) (es'.eraseIdx m):=by
  induction h with
  | nil=>intro m;simp[Go.Proofs.Ytilhhmkdcoajnaa.Am.delNth];exact .nil
  | cons hk0 hv0 hb0 hs ih =>
    intro m
    cases m with
    | zero=>exact hs
    | succ m=>exact .cons hk0 hv0 hb0 (ih m)
theorem Ed.append{es fs:List (AV×AV×Nat)}{es' fs':List MapEntry}(h:Ed ρ es es')(k:Ed ρ fs fs'):Ed ρ (es++fs) (es'++fs'):=by
  induction h with
  | nil=>exact k
  | cons hk0 hv0 hb0 hs ih=>exact .cons hk0 hv0 hb0 ih
theorem aJ       {k : AV} {k' : Value} {t : TypeId} (hsk : B3        P t k = true) (hk : Aa   ρ k k') : (Instr.keyThatStays k' k').run P w = .ok k' w := by
  have:Instr.sameBits 10000 k' k'=true:=by
    unfold B3 at hsk
    split at hsk<;>first | (cases hsk;done) | skip
    · cases hk;simp[Instr.sameBits]
    · cases hk with
      | str _ =>
        rename_i s _
        show(s.data == s.data)=true
        simp
  simp[Instr.keyThatStays,this]
theorem JQ(h:Inv P ρ s w){i clock clock1:Nat}{es es1:List (AV×AV×Nat)}{es' es1':Array MapEntry}{rb:RB}(hg:s.heap.get i=some (.map es clock))(hr:ρ i=some rb)
    (hb:w.heap[rb.b]? = some (.map es' clock)) (he:Ed ρ es1 es1'.toList):
    Inv P ρ (setObj s i (.map es1 clock1)) { w with heap:=w.heap.setIfInBounds rb.b (.map es1' clock1) } ∧
      Fr ρ s w ρ (setObj s i (.map es1 clock1)) { w with heap:=w.heap.setIfInBounds rb.b (.map es1' clock1) }:=by
  have hlt:=h.lt i rb hr
  exact h.set hg hr rfl (fun p hp=>by cases hp) rfl (by simp) (fun b hne=>by simp[Array.getElem?_setIfInBounds_ne (Ne.symm hne)]) rfl rfl rfl
    ⟨es1',by simp[hlt],he⟩
theorem L6         (h : Inv P ρ s w) {t : TypeId} {m k v : AV} {m' k' v' : Value} (hs : ED      P s t m k v = some s1) (hm : Aa   ρ m m') (hk : Aa   ρ k k') (hv : Aa   ρ v v') :
    ∃w1,(Instr.mapUpdate t m' k' v').run P w=.ok () w1∧Inv P ρ s1 w1∧Fr ρ s w ρ s1 w1:=by
  unfold ED at hs
  split at hs<;>first | (cases hs;done) | skip
  rename_i kt et i hu
  obtain⟨hsk,hg⟩:=AJ hs
  clear hs
  split at hg<;>first | (cases hg;done) | skip
  rename_i es clock hget
  simp only[oE]at hg
  obtain⟨r,hf,hg⟩:=hg
  obtain⟨d,hd,_⟩:=Dr hsk
  cases hm with
  | map hr =>
    rename_i rb
    obtain⟨es',e1,e2⟩:∃es':Array MapEntry,w.heap[rb.b]? = some (Obj.map es' clock)∧Ed ρ es es'.toList:=h.obj i _ rb hget hr
    have hfk:=LE hd hsk hk hf e2
    have hck:=fun(w:World)=>DO (w:=w) hsk hk false 9999
    split at hg
    · rename_i j v0 b0
      injection hg with hg
      subst hg
      obtain⟨v0',e',m,q1,q2,q3,q4,q5,q6⟩:=hfk
      have hjm:j=m:=by omega
      subst hjm
      have hes1:=e2.setNth hv q4 q5
      have hr1:=JQ (clock1:=clock) (es1':=es'.modify j fun e=>{ e with key:=k',val:=v' }) h hget hr e1 (by rw[Array.toList_modify];exact hes1)
      refine⟨_,?_,hr1.1,hr1.2⟩
      have hkey:((es'[j]?.map (·.key)).getD k')=k':=by
        rw[Array.getElem?_toList]at q4
        simp[q4,q5]
      simp[Instr.mapUpdate,AL hu,FC e1,hck w,De hd q1,hkey,aJ hsk hk,F9 _ e1]
    · injection hg with hg
      subst hg
      have hr1:=JQ (clock1:=clock+1) (es1':=es'.push { key:=k',val:=v',born:=clock }) h hget hr e1 (by
        rw[Array.toList_push]
        exact e2.append (.cons hk hv rfl .nil))
      refine⟨_,?_,hr1.1,hr1.2⟩
      simp[Instr.mapUpdate,AL hu,FC e1,hck w,De hd hfk,F9 _ e1]
theorem SD         (h : Inv P ρ s w) {t ty : TypeId} {m k : AV} {m' k' : Value} {tys : Array TypeId} (ht : tys[0]? = some t) (hs : KA      P s t m k = some s1) (hm : Aa   ρ m m') (hk : Aa   ρ k k') :
    ∃w1,(Builtin.delete_ tys ty #[m',k']).run P w=.ok undef w1∧Inv P ρ s1 w1∧Fr ρ s w ρ s1 w1:=by
  unfold KA at hs
  split at hs<;>first | (cases hs;done) | skip
  rename_i kt et hu
  obtain⟨hsk,hg⟩:=AJ hs
  clear hs
  obtain⟨d,hd,_⟩:=Dr hsk
  split at hg<;>first | (cases hg;done) | skip
  · injection hg with hg;subst hg
    cases hm
    exact⟨w,by simp[Builtin.delete_,ht,AL hu,DO hsk hk,undef],h,Fr.refl _ _ _⟩
  · rename_i i
    split at hg<;>first | (cases hg;done) | skip
    rename_i es clock hget
    simp only[oE]at hg
    obtain⟨r,hf,hg⟩:=hg
    cases hm with
    | map hr =>
      rename_i rb
      obtain⟨es',e1,e2⟩:∃es':Array MapEntry,w.heap[rb.b]? = some (Obj.map es' clock)∧Ed ρ es es'.toList:=h.obj i _ rb hget hr
      have hfk:=LE hd hsk hk hf e2
      have hck:=fun(w:World)=>DO (w:=w) hsk hk es'.isEmpty 9999
      split at hg
      · rename_i j v0 b0
        injection hg with hg
        subst hg
        obtain⟨v0',e',m,q1,q2,q3,q4,q5,q6⟩:=hfk
        have hjm:j=m:=by omega
        subst hjm
        have hr1:=JQ (clock1:=clock) (es1':=es'.eraseIdxIfInBounds j) h hget hr e1 (by
          rw[Array.toList_eraseIdxIfInBounds]
          exact e2.delNth j)
        refine⟨_,?_,hr1.1,hr1.2⟩
        simp[Builtin.delete_,ht,AL hu,FC e1,hck w,De hd q1,F9 _ e1,undef]
      · injection hg with hg
        subst hg
        have hlt:=h.lt i rb hr
        have hsame:w.heap.setIfInBounds rb.b (.map es' clock)=w.heap:=by
          apply Array.ext (by simp)
          intro j hj1 hj2
          by_cases e:rb.b=j
          · subst e
            rw[Array.getElem?_eq_getElem hlt]at e1
            injection e1 with e1
            simp[e1]
          · rw[Array.getElem_setIfInBounds_ne hj2 e]
        refine⟨w,?_,h,Fr.refl _ _ _⟩
        simp[Builtin.delete_,ht,AL hu,FC e1,hck w,De hd hfk,F9 _ e1,undef,hsame]
end
end
end Go.Proofs.Ytilhhmkdcoajnaa.Am
