/- append: the abstract machine's against the model's, whatever capacity is drawn; conditions: none. -/
import Derived.Test.YtilhhmkdcoajnaaAmEff
set_option linter.unusedVariables false
set_option linter.unusedSimpArgs false
namespace Go.Proofs.Ytilhhmkdcoajnaa.Am
open Go
noncomputable section
section
variable{P:Program}{ρ ρ1 ρ2:Rho}{s s1 s2:ASt}{w w1 w2:World}
theorem Inv.drawn(h:Inv P ρ s w)(d:Nat):Inv P ρ s { w with drawn:=d }:=
  ⟨fun i o rb hi hr=>(h.obj i o rb hi hr).mono (Rho.le_refl ρ) rfl,h.lt,h.sep⟩
theorem Fr.drawn'(d:Nat):Fr ρ s w ρ s { w with drawn:=d }:=
  ⟨Rho.le_refl ρ,fun _ h _=>h,oD _,oD _,rfl,rfl,rfl,fun _ _ _=>rfl,fun _ h=>.inl h,fun _ _ _=>rfl⟩
theorem Inv.split (h : Inv P ρ s w) {i : Nat} {r rj : EF}   {rb rbj : RB} (hg : s.heap.get i = some (.row r)) (hr : ρ i = some rb) (hown : FL    r.mode = true)
    (hsole:∀k ok rk,k≠i→s.heap.get k=some ok→ρ k=some rk→rk.b≠rb.b) (hf:ρ s.next=none)
    (hn2:s2.next=s.next) (hk2:∀k,k≠i→s2.heap.get k=s.heap.get k)
    (hi2:s2.heap.get i=none∨∃r',s2.heap.get i=some (.row r')∧FL r'.mode=false∧Fe ρ w1 r' rb)
    (hj:Fe (Cr ρ s.next rbj) w1 rj rbj) (hbj:rbj.b=rb.b) (hpar:s2.heap.get i=none∨rj.par=some i)
    (hsz:w1.heap.size=w.heap.size) (hkeep:∀b,b≠rb.b→w1.heap[b]? = w.heap[b]?) (hos:w1.os=w.os) (htape:w1.tape=w.tape) (hout:w1.output=w.output):
    Inv P (Cr ρ s.next rbj) (AH s2 (.row rj)) w1∧Fr ρ s w (Cr ρ s.next rbj) (AH s2 (.row rj)) w1:=by
  have hle:=Co (rb:=rbj) hf
  have hin:i≠s.next:=fun e=>by rw[e,hf]at hr;cases hr
  have hget:∀k,(AH s2 (.row rj)).heap.get k=if k=s.next then some (.row rj)else s2.heap.get k:=fun k=>by rw[CH,hn2]
  refine⟨⟨?_,?_,?_⟩,?_⟩
  · intro k ok rk hk hrk
    rw[hget]at hk
    by_cases e:k=s.next
    · subst e
      rw[if_pos rfl]at hk
      injection hk with hk
      rw[A4]at hrk
      injection hrk with hrk
      subst hk;subst hrk
      exact hj
    · rw [if_neg e] at hk
      rw[Ay rbj e]at hrk
      by_cases ei:k=i
      · subst ei
        rw[hr]at hrk
        injection hrk with hrk
        subst hrk
        rcases hi2 with h0 | ⟨r',h1,_,h2⟩
        · rw[h0]at hk;cases hk
        · rw[h1]at hk
          injection hk with hk
          subst hk
          exact Hz.mono (o:=.row r') (w:=w1) (w1:=w1) h2 hle rfl
      · rw[hk2 k ei]at hk
        exact(h.obj k ok rk hk hrk).mono hle (hkeep _ (hsole k ok rk ei hk hrk))
  · intro k rk hrk
    by_cases e:k=s.next
    · subst e
      rw[A4]at hrk
      injection hrk with hrk
      subst hrk
      rw[hbj,hsz]
      exact h.lt i rb hr
    · rw [Ay           rbj e] at hrk
      rw[hsz]
      exact h.lt k rk hrk
  · intro a c oa oc ra rc hne ha hc hra hrc hbb hwc
    rw[hget]at ha hc
    by_cases ea:a=s.next
    · subst ea
      rw[if_pos rfl]at ha
      rw[A4]at hra
      injection hra with hra
      subst hra
      have ec:c≠s.next:=fun e=>hne e.symm
      rw[if_neg ec]at hc
      rw[Ay rbj ec]at hrc
      by_cases eci:c=i
      · subst eci
        rcases hi2 with h0 | ⟨r',h1,h2,_⟩
        · rw[h0]at hc;cases hc
        · rw[h1]at hc
          injection hc with hc
          subst hc
          simp[wr,h2]at hwc
      · rw[hk2 c eci]at hc
        exact absurd (hbb.symm.trans hbj) (hsole c oc rc eci hc hrc)
    · rw [if_neg ea] at ha
      rw[Ay rbj ea]at hra
      by_cases ec:c=s.next
      · subst ec
        rw[if_pos rfl]at hc
        injection hc with hc
        subst hc
        rw[A4]at hrc
        injection hrc with hrc
        subst hrc
        by_cases eai:a=i
        · subst eai
          rcases hi2 with h0 | ⟨r',h1,h2,_⟩
          · rw[h0]at ha;cases ha
          · rw[h1]at ha
            injection ha with ha
            subst ha
            rcases hpar with hp | hp
            · rw[h1]at hp;cases hp
            · exact⟨hp,by simpa[wr]using h2⟩
        · rw[hk2 a eai]at ha
          exact absurd (hbb.trans hbj) (hsole a oa ra eai ha hra)
      · rw [if_neg ec] at hc
        rw[Ay rbj ec]at hrc
        by_cases eci:c=i
        · subst eci
          rcases hi2 with h0 | ⟨r',h1,h2,_⟩
          · rw[h0]at hc;cases hc
          · rw[h1]at hc
            injection hc with hc
            subst hc
            simp[wr,h2]at hwc
        · rw[hk2 c eci]at hc
          by_cases eai:a=i
          · subst eai
            rw[hr]at hra
            injection hra with hra
            subst hra
            exact absurd hbb.symm (hsole c oc rc eci hc hrc)
          · rw[hk2 a eai]at ha
            exact h.sep a c oa oc ra rc hne ha hc hra hrc hbb hwc
  · refine ⟨hle, ?_, by simp [AH,     hn2], by omega, hos, htape, hout, ?_, ?_, ?_⟩
    · intro k hk hrk
      have:k≠s.next:=by simp[AH,hn2]at hrk;omega
      rw[Ay rbj this];exact hk
    · intro b _ hno
      exact hkeep b (fun e=>hno ⟨i,_,rb,hg,by simpa[wr]using hown,hr,e.symm⟩)
    · rintro b ⟨k, ok, rk, hk, hwk, hrk, rfl⟩
      rw[hget]at hk
      by_cases e:k=s.next
      · subst e
        rw[A4]at hrk
        injection hrk with hrk
        subst hrk
        exact .inl ⟨i,_,rb,hg,by simpa[wr]using hown,hr,hbj.symm⟩
      · rw [if_neg e] at hk
        rw[Ay rbj e]at hrk
        by_cases ei:k=i
        · subst ei
          exact .inl ⟨k,_,rk,hg,by simpa[wr]using hown,hrk,rfl⟩
        · rw[hk2 k ei]at hk
          exact .inl ⟨k,ok,rk,hk,hwk,hrk,rfl⟩
    · intro k hrk hk
      rw[hget,if_neg (by simp only[AH]at hk;omega)]
      have:k≠i:=fun e=>by rw[e,hr]at hrk;cases hrk
      exact hk2 k this
theorem Ml        (newLen : Nat) : ∀ (k c : Nat), c < newLen → Builtin.growBy newLen k c ≤ 2 * newLen + 192
  | 0,c,h=>by simp only[Builtin.growBy];omega
  | k + 1, c, h => by
    simp only[Builtin.growBy]
    split
    · omega
    · by_cases h2 : c + (c + 768) / 4 < newLen
      · exact Ml newLen k _ h2
      · have:Builtin.growBy newLen k (c+(c+768) / 4)=c+(c+768) / 4:=by
          cases k with
          | zero=>rfl
          | succ k=>simp only[Builtin.growBy];rw[if_pos (by omega)]
        rw[this];omega
theorem Sg{need cap:Nat}(h:cap<need):Builtin.nextslicecap need cap≤2 * need+192:=by
  unfold Builtin.nextslicecap
  split
  · omega
  · split
    · omega
    · exact Ml need 4 cap h
theorem Zx(d:TypeDesc)(h:∀k,d≠.int k):(match d with | .int _=>true | _=>false)=false:=by
  cases d<;>first | rfl | exact absurd rfl (h _)
theorem PG{e:TypeId}{n:Nat}(h:CM P e=some n):∃i,(∀w,(typeInfo e).run P w=.ok i w)∧i.bytes=n:=by
  unfold CM at h
  split at h
  · injection h with h;rename_i i hi;exact⟨i,fun w=>by simp[typeInfo,hi],h⟩
  · cases h
structure TL(P:Program)(e xt:TypeId)(size n:Nat)(x':Value)(new:Array Value)(w:World):Prop where
  ok:(∃d,P.underlying xt=some d∧(∀k,d≠.int k)∧(Builtin.lenOf x').run P w=.ok n w∧∀d,(Builtin.firstCells size n x').run P { w with drawn:=d }=.ok new { w with drawn:=d }) ∨
    (∃k kd,P.underlying xt=some (.int k)∧x'=.int kd (n:Int)∧n≤1099511627776∧n≠0∧∃z,(∀w,(zeroValue e).run P w=.ok z w)∧z.cells.size=size∧new=Builtin.zeroCells z.cells n)
theorem DL{st xt ty e:TypeId}{size by_ n sLen sCap:Nat}{base:Option Addr}{x':Value}{new:Array Value}
    (hu:P.underlying st=some (.slice e)) (hs:BB P e=some size) (hby:CM P e=some by_) (hsz:size≠0) (hb:(sLen+n) * by_≤1099511627776)
    (hx:TL P e xt size n x' new w) (hle:sLen+n≤sCap)
    (hst:match base with | some a=>(storeCells (a.add (sLen * size)) new.toList).run P w=.ok () w1 | none=>w1=w):
    (Builtin.append_ #[st,xt] ty #[.slice base sLen sCap,x']).run P w=.ok (.slice base (sLen+n) sCap) w1:=by
  rcases hx.ok with⟨d,hd,hnd,hn,hfc⟩ | ⟨k,kd,hk,rfl,hn,hn0,z,hz,hzs,hnew⟩
  · have hm := Zx     d hnd
    have hfc:=hfc w.drawn
    cases base with
    | none =>
      simp only at hst
      subst hst
      simp[Builtin.append_,AL hu,BH hs,AL hd,hm,hn,hle,hfc]
    | some a =>
      simp only at hst
      simp[Builtin.append_,AL hu,BH hs,AL hd,hm,hn,hle,hfc,hst]
  · obtain⟨i,hi,hi2⟩:=PG hby
    have hw:IntKind.i64.wrap (n:Int)=(n:Int):=KO (k:=.i64) (n:=Int.ofNat n) (by simp[B0,oQ];omega)
    have h0:¬ ((n:Int)<0):=by omega
    have hm1:n * by_≤1099511627776:=oS (pT _ (Nat.le_add_left _ _)) hb
    have h1:¬ ((281474976710656:Int)<(n:Int) * (i.bytes:Int)):=by
      rw[hi2]
      have:((n * by_:Nat):Int)≤1099511627776:=by omega
      have e:((n * by_:Nat):Int)=(n:Int) * (by_:Int):=by simp
      omega
    cases base with
    | none =>
      simp only at hst
      subst hst
      simp[Builtin.append_,AL hu,BH hs,AL hk,asInt,asIntOf,hw,hi,h0,h1,hle,hn0,hsz,hz]
    | some a =>
      simp only at hst
      rw[hnew]at hst
      have hns:n * size≠0:=Nat.mul_ne_zero hn0 hsz
      simp[Builtin.append_,AL hu,BH hs,AL hk,asInt,asIntOf,hw,hi,h0,h1,hle,hn0,hsz,hns,hz,hst]
theorem J0{st xt ty e:TypeId}{size by_ n sLen sCap:Nat}{base:Option Addr}{x':Value}{old new:Array Value}{z:Value}
    (hu:P.underlying st=some (.slice e)) (hs:BB P e=some size) (hby:CM P e=some by_) (hsz:size≠0)
    (hb:(sLen+n) * by_≤1099511627776) (hb2:sLen+n≤1099511627776)
    (hx:TL P e xt size n x' new w) (hgt:sCap<sLen+n) (hz:∀w,(zeroValue e).run P w=.ok z w)
    (hold:∀d,(Builtin.firstCells size sLen (.slice base sLen sCap)).run P { w with drawn:=d }=.ok old { w with drawn:=d }):
    ∃newCap,sLen+n≤newCap∧(Builtin.append_ #[st,xt] ty #[.slice base sLen sCap,x']).run P w =
      .ok (.slice (some ⟨w.heap.size,0,none⟩) (sLen+n) newCap) (World.alloc { w with drawn:=w.drawn+1 } (.cells (old++new++Builtin.zeroCells z.cells (newCap - (sLen+n))) e)):=by
  obtain⟨i,hi,hi2⟩:=PG hby
  have hcap:=Sg hgt
  have hnc:¬ (281474976710656:Nat)<Builtin.nextslicecap (sLen+n) sCap * i.bytes:=by
    rw[hi2]
    have h1:Builtin.nextslicecap (sLen+n) sCap * by_≤(2 * (sLen+n)+192) * by_:=pT _ hcap
    have h2:by_≤(sLen+n) * by_:=Nat.le_mul_of_pos_left _ (by omega)
    have h3:(2 * (sLen+n)+192) * by_=2 * ((sLen+n) * by_)+192 * by_:=by rw[pC,Nat.mul_assoc]
    omega
  have hle:¬ sLen+n≤sCap:=by omega
  have hmax:¬ ((9223372036854775807:Int)<((sLen:Int)+(n:Int))):=by omega
  let q:Question:=.appendCap (sLen+n) sCap e
  let newCap:=q.cut (w.tape w.drawn q)
  have hq:sLen+n≤newCap:=by simp[newCap,q,Question.cut]
  refine⟨newCap,hq,?_⟩
  have hf:q.forced=false:=rfl
  have hold:(Builtin.firstCells size sLen (.slice base sLen sCap)).run P w.drew=.ok old w.drew:=hold (w.drawn+1)
  rcases hx.ok with⟨d,hd,hnd,hn,hfc⟩ | ⟨k,kd,hk,rfl,hn,hn0,z',hz',hzs,hnew⟩
  · have hm := Zx     d hnd
    have hfc:(Builtin.firstCells size n x').run P w.drew=.ok new w.drew:=hfc (w.drawn+1)
    simp[Builtin.append_,AL hu,BH hs,AL hd,hle,hm,hn,hi,hmax,hnc,hold,hfc,hz,newRow,IntKind.max,IntKind.signed,IntKind.bits]
    simp[newCap,q,hf]
  · have hw : IntKind.i64.wrap (n : Int) = (n : Int) := KO      (k := .i64) (n := Int.ofNat n) (by simp [B0,      oQ];         omega)
    have h0:¬ ((n:Int)<0):=by omega
    have hm1:n * by_≤1099511627776:=oS (pT _ (Nat.le_add_left _ _)) hb
    have h1:¬ ((281474976710656:Int)<(n:Int) * (i.bytes:Int)):=by
      rw[hi2]
      have:((n * by_:Nat):Int)≤1099511627776:=by omega
      have e:((n * by_:Nat):Int)=(n:Int) * (by_:Int):=by simp
      omega
    have hzz:z'=z:=by
      have:=hz' w
      rw[hz w]at this
      injection this with this
      exact this.symm
    subst hzz
    have hns:n * size≠0:=Nat.mul_ne_zero hn0 hsz
    simp[Builtin.append_,AL hu,BH hs,AL hk,asInt,asIntOf,hw,hi,h0,h1,hle,hn0,hsz,hns,hz,hmax,hnc,hold,newRow,IntKind.max,IntKind.signed,IntKind.bits]
    simp[newCap,q,hf,hnew]
theorem Ju          (ρ : Rho) {e : TypeId} {size : Nat} (h : By     P e size = true) : ∃ z z', B9    P e = some z ∧ Aa   ρ z z' ∧ (∀ w, (zeroValue e).run P w = .ok z' w) ∧ z'.cells.size = size ∧ z.cells.length = size := by
  unfold By at h
  split at h
  · rename_i z hz
    have hl:=A5 h
    have key:∃z',(∀w,(zeroValue e).run P w=.ok z' w)∧Aa ρ z z':=by
      unfold B9 at hz
      split at hz
      · split at hz
        · rename_i i hi _ v hv
          exact⟨v,fun w=>by simp[zeroValue,typeInfo,hi,hv],B1 ρ hz⟩
        · cases hz
      · cases hz
    obtain⟨z',h1,h2⟩:=key
    have:=h2.cells.length
    exact⟨z,z',hz,h2,h1,by simp at this;omega,hl⟩
  · cases h
theorem HX{z:AV}{z':Value}{size:Nat}(hz:Aa ρ z z')(hl:z.cells.length=size)(hs:z'.cells.size=size)(n:Nat):
    AU ρ (rep z.cells n) (Builtin.zeroCells z'.cells n).toList:=by
  have:=OB (c:=n) hz hl
  unfold Builtin.zeroCells
  rw[hs]
  rw[hs]at this
  exact this
theorem Pt(h:Inv P ρ s w){e xt:TypeId}{size:Nat}{x:AV}{x':Value}{src:Nat×List AV}
    (hg:(match x with | .int ..=>LQ P xt | _=>A9 P xt)=true) (hs:Bg P s e size x=some src) (hx:Aa ρ x x'):
    ∃new:Array Value,AU ρ src.2 new.toList∧TL P e xt size src.1 x' new w∧new.size=src.1 * size:=by
  have hslice:(∃d,P.underlying xt=some d∧∀k,d≠.int k)∨∃k n,x=.int k n:=by
    cases x with
    | int k n=>exact .inr ⟨k,n,rfl⟩
    | _ =>
      refine .inl ?_
      simp only[A9]at hg
      split at hg
      · rename_i hd;exact⟨_,hd,by simp⟩
      · rename_i hd;exact⟨_,hd,by simp⟩
      · cases hg
  unfold Bg at hs
  split at hs
  · rename_i kd n
    obtain⟨hb,hs⟩:=AJ hs
    simp only[Bool.and_eq_true,oQ,oq]at hb
    simp only[oE]at hs
    obtain⟨z,hz,hs⟩:=hs
    obtain⟨hl,hs⟩:=AJ hs
    injection hs with hs
    subst hs
    obtain⟨z0,z',hz0,h1,h2,h3,h4⟩:=Ju ρ (P:=P) (e:=e) (size:=size) (by simp[By,hz,hl])
    rw[hz]at hz0
    injection hz0 with hz0
    subst hz0
    cases hx
    have hk:∃k,P.underlying xt=some (.int k):=by
      simp only[LQ]at hg
      split at hg
      · rename_i k hk;exact⟨k,hk⟩
      · cases hg
    obtain⟨k,hk⟩:=hk
    exact⟨Builtin.zeroCells z'.cells n,HX h1 h4 h3 n,⟨.inr ⟨k,kd,hk,rfl,hb.1,by omega,z',h2,h3,rfl⟩⟩,by simp[Builtin.zeroCells,h3]⟩
  · injection hs with hs
    subst hs
    obtain⟨d,hd,hnd⟩:=hslice.resolve_right (by simp)
    cases hx
    exact⟨#[],.nil,⟨.inl ⟨d,hd,hnd,rfl,fun _=>rfl⟩⟩,by simp⟩
  · rename_i i o n cap
    simp only[oE]at hs
    obtain⟨l,hl,hs⟩:=hs
    injection hs with hs
    subst hs
    obtain⟨d,hd,hnd⟩:=hslice.resolve_right (by simp)
    unfold dS at hl
    cases hn0:Nat.beq n 0 with
    | true =>
      rw[hn0]at hl
      injection hl with hl
      subst hl
      have:=A5 hn0
      subst this
      cases hx<;>exact⟨#[],by simpa using AU.nil,⟨.inl ⟨d,hd,hnd,rfl,fun d=>by simp[Builtin.firstCells,loadCells,loadCellsFrom]⟩⟩,by simp⟩
    | false =>
    rw[hn0]at hl
    simp only[cond_false]at hl
    cases hx with
    | slice hr hlc =>
      obtain⟨l',h1,h2,h3⟩:=EL h hr hl
      exact⟨l'.toArray,by simpa using h1,⟨.inl ⟨d,hd,hnd,rfl,fun d=>h3 _ rfl⟩⟩,by simpa using h2⟩
    | sliceOpen hr hsz hlc h1 h2 =>
      obtain⟨l',h1,h2,h3⟩:=EL h hr hl
      exact⟨l'.toArray,by simpa using h1,⟨.inl ⟨d,hd,hnd,rfl,fun d=>h3 _ rfl⟩⟩,by simpa using h2⟩
    | sliceEnd hr hsz h1 h2 =>
      obtain⟨l',h1,h2,h3⟩:=EL h hr hl
      have hl0:l'=[]:=by simpa using h2
      subst hl0
      cases h1
      exact⟨#[],by simpa using AU.nil,⟨.inl ⟨d,hd,hnd,rfl,fun d=>by simp[Builtin.firstCells,loadCells,loadCellsFrom]⟩⟩,by simp⟩
  · rename_i l
    obtain⟨hb,hs⟩:=AJ hs
    injection hs with hs
    subst hs
    obtain⟨d,hd,hnd⟩:=hslice.resolve_right (by simp)
    cases hx with
    | str hl =>
      rename_i b
      subst hl
      have hsz1:=A5 hb
      have hlen:(List.map (fun(b:UInt8)=>b.toNat) b.data.toList).length=b.size:=by simp
      refine⟨(b.extract 0 b.size).data.map fun b=>.int .u8 b.toNat,?_,⟨.inl ⟨d,hd,hnd,by simp[Builtin.lenOf,hlen],fun d=>by simp[Builtin.firstCells,hlen]⟩⟩,by simp[hsz1]⟩
      have he:(b.extract 0 b.size).data.toList=b.data.toList:=by simp
      rw[Array.toList_map,he]
      generalize b.data.toList=l
      induction l with
      | nil=>exact .nil
      | cons x l ih=>exact .cons (.int _ _) ih
  · cases hs
def TG(P:Program)(ρ:Rho)(s:ASt)(w:World)(sem:Sem Value)(v:AV)(s':ASt):Prop:=
  ∃v' w' ρ',sem.run P w=.ok v' w'∧Aa ρ' v v'∧Inv P ρ' s' w'∧Fr ρ s w ρ' s' w'
theorem AU.get'{l:List AV}{cs:Array Value}(h:AU ρ l cs.toList){k:Nat}{v:AV}(hk:l[k]? = some v):∃v',cs[k]? = some v'∧Aa ρ v v':=by
  obtain⟨v',h1,h2⟩:=h.get hk
  exact⟨v',by rw[← Array.getElem?_toList];exact h1,h2⟩
theorem GT(h:Inv P ρ s w)(hf:ρ s.next=none){e:TypeId}{size n newCap:Nat}{cells:List AV}{v:AV}{cs rest:Array Value}(hs:BV P s e size n cells=some (v,s1))
    (hc:AU ρ cells cs.toList) (hcs:cs.size=n * size) (hsz:0<size) (hcap:n≤newCap) (hrest:rest.size=(newCap - n) * size):
    ∃ρ',Aa ρ' v (.slice (some ⟨w.heap.size,0,none⟩) n newCap)∧Inv P ρ' s1 (World.alloc w (.cells (cs++rest) e))∧Fr ρ s w ρ' s1 (World.alloc w (.cells (cs++rest) e)):=by
  unfold BV at hs
  obtain⟨hz,hs⟩:=AJ hs
  injection hs with hs
  injection hs with hs1 hs2
  subst hs1;subst hs2
  have hlen:cells.length=n * size:=by have:=hc.length;simp at this;omega
  have htot:newCap * size=n * size+(newCap - n) * size:=by rw[← pC];congr 1;omega
  have hle:=Co (rb:=⟨w.heap.size,0,newCap * size,size⟩) hf
  have hblk:(World.alloc w (.cells (cs++rest) e)).heap[w.heap.size]? = some (.cells (cs++rest) e (0,0)):=World.alloc_heap_new w _
  obtain⟨h1,h2⟩:=h.new (o:=B6 e size (Aj.fill .leaf 0 cells) cells.length none) (o':=.cells (cs++rest) e) (rb:=⟨w.heap.size,0,newCap * size,size⟩) hf rfl (by
    refine⟨?_,by simp only;omega,rfl,(fun hh=>by cases hh),fun _=>⟨cs++rest,e,hblk,by simp[hcs,hrest];omega⟩,fun p hp=>by cases hp⟩
    intro k v hk hv
    simp only[Aj.get_fill,oK,oN,true_and,Nat.sub_zero]at hv
    simp only at hk
    rw[if_pos hk]at hv
    obtain⟨v',g1,g2⟩:=hc.get' hv
    refine⟨v',?_,g2.mono hle⟩
    simp only[World.cell?,hblk,oN]
    have hkc:k<cs.size:=by omega
    simp only[Option.isSome_none,Bool.false_eq_true,if_false]
    rw[Array.getElem?_append_left hkc]
    exact g1)
  refine⟨_,Aa.sliceOpen (A4 _ _) hsz hcap (by simp) ?_,h1,h2⟩
  simp only[oN]
  exact Nat.mul_lt_mul_of_pos_right (by omega) hsz
theorem L5         (h : Inv P ρ s w) {i : Nat} {r : EF}   {rb : RB} (hg : s.heap.get i = some (.row r)) (hr : ρ i = some rb) (hown : FL    r.mode = true) :
    Inv P ρ (Ax s i r) w∧Fr ρ s w ρ (Ax s i r) w∧(Ax s i r).next=s.next∧(Ax s i r).heap.get i=some (.row r) ∧
    (∀k ok rk,k≠i→(Ax s i r).heap.get k=some ok→ρ k=some rk→rk.b≠rb.b)∧(∀p,r.par=some p→p≠i→(Ax s i r).heap.get p=none):=by
  have hok:Fe ρ w r rb:=h.obj i _ rb hg hr
  unfold Ax
  split
  · rename_i hp
    refine⟨h,Fr.refl _ _ _,rfl,hg,fun k ok rk hne hk hrk e=>?_,fun p hp'=>by rw[hp]at hp';cases hp'⟩
    have:=(h.sep k i ok _ rk rb hne hk hg hrk hr e (by simpa[wr]using hown)).1
    simp[My,hp]at this
  · rename_i p hp
    by_cases hpi:p=i
    · have:Nat.beq p i=true:=by rw[hpi];simp[Nat.beq_eq]
      rw[this]
      refine⟨h,Fr.refl _ _ _,rfl,hg,fun k ok rk hne hk hrk e=>?_,fun q hq hqi=>by rw[hp]at hq;injection hq with hq;exact absurd (hq.symm.trans hpi) hqi⟩
      have:=(h.sep k i ok _ rk rb hne hk hg hrk hr e (by simpa[wr]using hown)).1
      simp[My,hp]at this
      exact hne (this.symm.trans hpi)
    · rw[Aj.beq_no hpi]
      obtain⟨rp,hrp⟩:=hok.par p hp
      obtain⟨hd,hfd⟩:=h.del hrp
      refine⟨hd,hfd,rfl,by show(Bc s p).heap.get i=_;rw[Be,if_neg (fun e=>hpi e.symm)];exact hg,fun k ok rk hne hk hrk e=>?_,fun q hq _=>by
        rw[hp]at hq
        injection hq with hq
        subst hq
        show(Bc s p).heap.get p=none
        rw[Be,if_pos rfl]⟩
      have hk':(Bc s p).heap.get k=some ok:=hk
      rw[Be]at hk'
      by_cases hkp:k=p
      · rw[if_pos hkp]at hk';cases hk'
      · rw[if_neg hkp]at hk'
        have:=(h.sep k i ok _ rk rb hne hk' hg hrk hr e (by simpa[wr]using hown)).1
        simp[My,hp]at this
        exact hkp this.symm
theorem Pk(i:Nat)(r:EF)(ends:Bool)(k:Nat)(hk:k≠i):(Cf s i r ends).heap.get k=(Ax s i r).heap.get k:=by
  unfold Cf
  cases ends with
  | true=>simp only[cond_true];rw[DT,if_neg hk]
  | false=>simp only[cond_false];rw[Be,if_neg hk]
theorem Ik(i:Nat)(r:EF)(ends:Bool)(hn:(Ax s i r).next=s.next):(Cf s i r ends).next=s.next:=by
  unfold Cf
  cases ends with
  | true=>exact hn
  | false=>exact hn
theorem JJ{i off n:Nat}{l:List AV}{r:EF}(hrow:BA s i=some r)(hl:loadN s i off n=some l):off+n≤r.n∧r.c.take off n=some l:=by
  unfold loadN at hl
  rw[hrow]at hl
  obtain⟨hb,hl⟩:=AJ (by simpa using hl)
  exact⟨by simpa[oQ]using hb,hl⟩
theorem M7{r:EF}{o m:Nat}{old new:List AV}(ht:r.c.take o m=some old)(k:Nat)(hk:k<(old++new).length):
    (bif Nat.beq o 0 then r.c.fill m new else Aj.fill .leaf 0 (old++new)).get k=(old++new)[k]? := by
  have hlen:=Aj.take_length ht
  by_cases h0:o=0
  · subst h0
    simp only[show Nat.beq 0 0=true from rfl,cond_true,Aj.get_fill]
    by_cases h1:k<m
    · rw[if_neg (by omega),oR (by omega)]
      have:=Aj.take_get ht k h1
      simpa using this
    · simp only[oL]at hk
      rw[if_pos (by omega),oT (by omega),hlen]
  · rw[Aj.beq_no h0]
    simp only[cond_false,Aj.get_fill,oK,oN,true_and,Nat.sub_zero]
    rw[if_pos hk]
theorem OU          (h : Inv P ρ s w) (hf : ρ s.next = none) {e : TypeId} {size i o len cap : Nat} {src : Nat × List AV} {r : EF}   {rb : RB} {old : List AV} {v : AV} {new : Array Value}
    (hs:DF P s e size i o len src r old=some (v,s1)) (hrow:BA s i=some r) (hr:ρ i=some rb) (hl:loadN s i o (len * size)=some old)
    (hnew:AU ρ src.2 new.toList) (hns:new.size=src.1 * size) (hall:Af src.2=true) (hsz:0<size) (hle:len+src.1≤cap) (h1:o+cap * size≤rb.N) (h2:rb.N<o+(cap+1) * size)
    (hgt:r.n<o+(len+src.1) * size):
    ∃w1 ρ',(storeCells ⟨rb.b,rb.off+o+len * size,none⟩ new.toList).run P w=.ok () w1∧Aa ρ' v (.slice (some ⟨rb.b,rb.off+o,none⟩) (len+src.1) cap)∧Inv P ρ' s1 w1∧Fr ρ s w ρ' s1 w1:=by
  unfold DF at hs
  obtain⟨hg,hs⟩:=AJ hs
  simp only[Bool.and_eq_true]at hg
  obtain⟨hown,_⟩:=hg
  injection hs with hs
  injection hs with hs1 hs2
  have hget:=Cn hrow
  have hok:Fe ρ w r rb:=h.obj i _ rb hget hr
  obtain⟨hle1,htake⟩:=JJ hrow hl
  have hmode:r.mode≠.ro:=fun e=>by rw[e]at hown;cases hown
  obtain⟨cs,ety,hblk,hszb⟩:=hok.own hmode
  have hoN:o≤rb.N:=by omega
  have hneed:(len+src.1) * size≤cap * size:=pT _ hle
  have hsum:(len+src.1) * size=len * size+src.1 * size:=pC _ _ _
  have hfit:rb.off+o+len * size+new.toList.length≤cs.size:=by simp only[Array.length_toList];omega
  have hone:∀x∈new.toList,x.oneCell'=true:=hnew.oneCell hall
  have hrun:=run_storeCells_at P rb.b (rb.off+o+len * size) ety new.toList 0 cs w hblk (by simpa using hfit) hone
  simp only[Nat.add_zero]at hrun
  generalize hcs1:(cs.toList.take (rb.off+o+len * size)++new.toList++cs.toList.drop (rb.off+o+len * size+new.toList.length)).toArray=cs1 at hrun
  have hblk1:(w.setRow rb.b cs1).heap[rb.b]? = some (.cells cs1 ety (0,0)):=setRow_heap w rb.b cs cs1 ety (0,0) hblk
  have hsize1:cs1.size=cs.size:=by rw[← hcs1];simp;simp at hfit;omega
  have hgetc:∀k,cs1[k]? = if rb.off+o+len * size≤k∧k<rb.off+o+len * size+new.size then new[k - (rb.off+o+len * size)]? else cs[k]? := by
    intro k
    rw[← hcs1,List.getElem?_toArray]
    simp only[Array.length_toList]at hfit ⊢
    by_cases g1:k<rb.off+o+len * size
    · rw[if_neg (by omega),pS,oR (by simp;omega),pN g1,Array.getElem?_toList]
    · rw[pS,oT (by simp;omega)]
      have hmin:(cs.toList.take (rb.off+o+len * size)).length=rb.off+o+len * size:=by simp;omega
      rw[hmin]
      by_cases g2:k<rb.off+o+len * size+new.size
      · rw[if_pos (by omega),oR (by simp;omega),Array.getElem?_toList]
      · rw[if_neg (by omega),oT (by simp;omega),pD,← Array.getElem?_toList]
        congr 1
        simp
        omega
  obtain⟨hu,hfu,hnu,hgu,hsole,_⟩:=L5 h hget hr hown
  have hlenold:=Aj.take_length htake
  have hlensrc:src.2.length=src.1 * size:=by have:=hnew.length;simp at this;omega
  have hlenall:(old++src.2).length=(len+src.1) * size:=by simp;omega
  let rbj:RB:=⟨rb.b,rb.off+o,rb.N - o,size⟩
  have hle':ρ.le (Cr ρ (Ax s i r).next rbj):=by rw[hnu];exact Co (rb:=rbj) hf
  have hcell:∀k,(w.setRow rb.b cs1).cell? ⟨rb.b,k,none⟩=cs1[k]? := fun k=>by simp[World.cell?,hblk1]
  have hcell0:∀k,w.cell? ⟨rb.b,k,none⟩=cs[k]? := fun k=>by simp[World.cell?,hblk]
  have hsplit:=Inv.split (s2:=Cf s i r (Nat.beq (o+len * size) r.n)) (w1:=w.setRow rb.b cs1) (rbj:=rbj) (i:=i)
    (rj:={ elem:=e,sz:=size,n:=(old++src.2).length,c:=bif Nat.beq o 0 then r.c.fill (len * size) src.2 else Aj.fill .leaf 0 (old++src.2),spare:=true,mode:=.own,par:=bif Nat.beq (o+len * size) r.n then some i else none,bytes:=false })
    hu hgu hr hown hsole (by rw[hnu];exact hf) ((Ik i r _ hnu).trans hnu.symm) (fun k hk=>Pk i r _ k hk)
    (by
      cases hends:Nat.beq (o+len * size) r.n with
      | false=>exact .inl (by show(Bc _ i).heap.get i=none;rw[Be,if_pos rfl])
      | true =>
        have hends:=A5 hends
        refine .inr ⟨{ r with mode:=.sealed,par:=none },by show(setObj _ i _).heap.get i=_;rw[DT,if_pos rfl],rfl,?_⟩
        refine⟨?_,hok.le,hok.sz,hok.tight,fun _=>⟨cs1,ety,hblk1,by rw[hsize1];exact hszb⟩,fun p hp=>by cases hp⟩
        intro k v hk hv
        obtain⟨v',g1,g2⟩:=hok.cells k v hk hv
        refine⟨v',?_,g2⟩
        rw[hcell,hgetc,if_neg (by simp only at hk;omega)]
        rw[hcell0]at g1
        exact g1)
    (by
      refine⟨?_,by simp only[rbj];omega,rfl,(fun hh=>by cases hh),fun _=>⟨cs1,ety,hblk1,by simp only[rbj];omega⟩,?_⟩
      · intro k v hk hv
        simp only at hk hv
        rw[M7 htake k hk]at hv
        show ∃v',(w.setRow rb.b cs1).cell? ⟨rb.b,rb.off+o+k,none⟩=some v'∧Aa _ v v'
        rw[hcell,hgetc]
        by_cases hk1:k<len * size
        · rw [if_neg (by omega)]
          rw[oR (by omega),← Aj.take_get htake k hk1]at hv
          obtain⟨v',g1,g2⟩:=hok.cells (o+k) v (by omega) hv
          refine⟨v',?_,g2.mono hle'⟩
          rw[hcell0]at g1
          rw[show rb.off+o+k=rb.off+(o+k)from by omega]
          exact g1
        · rw [hlenall] at hk
          rw[if_pos (by omega),show rb.off+o+k - (rb.off+o+len * size)=k - len * size from by omega]
          rw[oT (by omega),hlenold]at hv
          obtain⟨v',g1,g2⟩:=hnew.get' hv
          exact⟨v',g1,g2.mono hle'⟩
      · intro p hp
        simp only at hp
        cases hends:Nat.beq (o+len * size) r.n with
        | false=>rw[hends]at hp;cases hp
        | true =>
          rw[hends]at hp
          simp only[cond_true]at hp
          injection hp with hp
          subst hp
          exact⟨rb,hle' _ _ hr⟩)
    rfl
    (by
      cases hends:Nat.beq (o+len * size) r.n with
      | false=>exact .inl (by show(Bc _ i).heap.get i=none;rw[Be,if_pos rfl])
      | true=>exact .inr rfl)
    (by simp) (fun b hb=>setRow_other w rb.b b cs1 hb) rfl rfl rfl
  rw[hnu]at hsplit
  refine⟨w.setRow rb.b cs1,Cr ρ s.next rbj,hrun,?_,?_,?_⟩
  · rw[← hs1]
    have hj:Cr ρ s.next rbj s.next=some rbj:=A4 _ _
    have hm1:cap * size≤rb.N - o:=by omega
    have hm2:rb.N - o<(cap+1) * size:=by omega
    exact Aa.sliceOpen (rb:=rbj) (o:=0) hj hsz hle (by simpa using hm1) (by simpa using hm2)
  · rw[← hs2];exact hsplit.1
  · rw[← hs2];exact hfu.trans hsplit.2
theorem NL           (h : Inv P ρ s w) (hf : ρ s.next = none) {e : TypeId} {size i o len newCap : Nat} {src : Nat × List AV} {r : EF}   {rb : RB} {old : List AV} {v : AV} {cs rest : Array Value}
    (hs:DF P s e size i o len src r old=some (v,s1)) (hrow:BA s i=some r) (hr:ρ i=some rb) (hl:loadN s i o (len * size)=some old)
    (hc:AU ρ (old++src.2) cs.toList) (hcs:cs.size=(len+src.1) * size) (hsz:0<size) (hcap:len+src.1≤newCap) (hrest:rest.size=(newCap - (len+src.1)) * size):
    ∃ρ',Aa ρ' v (.slice (some ⟨w.heap.size,0,none⟩) (len+src.1) newCap)∧Inv P ρ' s1 (World.alloc w (.cells (cs++rest) e))∧Fr ρ s w ρ' s1 (World.alloc w (.cells (cs++rest) e)):=by
  unfold DF at hs
  obtain⟨hg,hs⟩:=AJ hs
  simp only[Bool.and_eq_true]at hg
  obtain⟨hown,_⟩:=hg
  injection hs with hs
  injection hs with hs1 hs2
  have hget:=Cn hrow
  have hok:Fe ρ w r rb:=h.obj i _ rb hget hr
  obtain⟨hle1,htake⟩:=JJ hrow hl
  obtain⟨hu,hfu,hnu,hgu,hsole,hpar⟩:=L5 h hget hr hown
  have hlen:(old++src.2).length=(len+src.1) * size:=by have:=hc.length;simp only[Array.length_toList]at this;omega
  have htot:newCap * size=(len+src.1) * size+(newCap - (len+src.1)) * size:=by rw[← pC];congr 1;omega
  have hsealed:Inv P ρ (Cf s i r (Nat.beq (o+len * size) r.n)) w∧Fr ρ (Ax s i r) w ρ (Cf s i r (Nat.beq (o+len * size) r.n)) w:=by
    cases hends:Nat.beq (o+len * size) r.n with
    | false=>exact hu.del hr
    | true =>
      refine hu.set (o1:=.row { r with mode:=.sealed,par:=none }) (w1:=w) hgu hr (by simpa[wr]using hown) hpar rfl rfl (fun _ _=>rfl) rfl rfl rfl ?_
      exact⟨hok.cells,hok.le,hok.sz,hok.tight,fun _=>hok.own (fun e=>by rw[e]at hown;cases hown),fun p hp=>by cases hp⟩
  have hns:(Cf s i r (Nat.beq (o+len * size) r.n)).next=s.next:=Ik i r _ hnu
  have hf2:ρ (Cf s i r (Nat.beq (o+len * size) r.n)).next=none:=by rw[hns];exact hf
  generalize hs2':Cf s i r (Nat.beq (o+len * size) r.n)=s2 at *
  have hle:=Co (rb:=⟨w.heap.size,0,newCap * size,size⟩) hf2
  have hblk:(World.alloc w (.cells (cs++rest) e)).heap[w.heap.size]? = some (.cells (cs++rest) e (0,0)):=World.alloc_heap_new w _
  obtain⟨h1,h2⟩:=hsealed.1.new (o:=B6 e size (bif Nat.beq o 0 then r.c.fill (len * size) src.2 else Aj.fill .leaf 0 (old++src.2)) (old++src.2).length (bif Nat.beq (o+len * size) r.n then some i else none))
    (o':=.cells (cs++rest) e) (rb:=⟨w.heap.size,0,newCap * size,size⟩) hf2 rfl (by
    refine⟨?_,by simp only;omega,rfl,(fun hh=>by cases hh),fun _=>⟨cs++rest,e,hblk,by simp[hcs,hrest];omega⟩,?_⟩
    · intro k v hk hv
      simp only at hk hv
      rw[M7 htake k hk]at hv
      obtain⟨v',g1,g2⟩:=hc.get' hv
      refine⟨v',?_,g2.mono hle⟩
      simp only[World.cell?,hblk,oN]
      have hkc:k<cs.size:=by omega
      simp only[Option.isSome_none,Bool.false_eq_true,if_false]
      rw[Array.getElem?_append_left hkc]
      exact g1
    · intro p hp
      simp only at hp
      cases hends:Nat.beq (o+len * size) r.n with
      | false=>rw[hends]at hp;cases hp
      | true =>
        rw[hends]at hp
        simp only[cond_true]at hp
        injection hp with hp
        subst hp
        exact⟨rb,hle _ _ hr⟩)
  refine⟨_,?_,by rw[← hs2];exact h1,by rw[← hs2];exact(hfu.trans hsealed.2).trans h2⟩
  rw[← hs1,← hns]
  refine Aa.sliceOpen (A4 _ _) hsz hcap (by simp) ?_
  simp only[oN]
  exact Nat.mul_lt_mul_of_pos_right (by omega) hsz
end
end
end Go.Proofs.Ytilhhmkdcoajnaa.Am
