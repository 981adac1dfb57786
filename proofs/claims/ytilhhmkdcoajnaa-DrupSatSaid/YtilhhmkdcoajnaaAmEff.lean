/- The abstract machine's new objects and writes against the model's; conditions: none. -/
import Derived.Test.YtilhhmkdcoajnaaAmMem
set_option linter.unusedVariables false
set_option linter.unusedSimpArgs false
namespace Go.Proofs.Ytilhhmkdcoajnaa.Am
open Go
noncomputable section
section
variable{P:Program}{ρ ρ1 ρ2:Rho}{s s1 s2:ASt}{w w1 w2:World}
theorem Zo{e:TypeId}{sz:Nat}{l:List AV}{cs:Array Value}{t:TypeId}(hl:AU ρ l cs.toList)(b:Nat)(hb:w.heap[b]? = some (.cells cs t (0,0))):
    Hz P ρ w (AP e sz l) ⟨b,0,l.length,sz⟩:=by
  have hlen:=hl.length
  refine⟨?_,oD _,rfl,fun _=>rfl,fun _=>⟨cs,t,hb,by simp[hlen]⟩,fun p hp=>by cases hp⟩
  intro k v hk hv
  simp only[Aj.get_fill,oK,oN,true_and,Nat.sub_zero]at hv
  rw[if_pos hk]at hv
  obtain⟨v',h1,h2⟩:=hl.get hv
  refine⟨v',?_,h2⟩
  simp only[World.cell?,hb,oN]
  rw[← Array.getElem?_toList]
  simpa using h1
theorem HB(h:Inv P ρ s w)(hf:ρ s.next=none){e t:TypeId}{sz:Nat}{l:List AV}{cs:Array Value}(hl:AU ρ l cs.toList):
    ∃ρ',ρ' s.next=some ⟨w.heap.size,0,l.length,sz⟩∧Inv P ρ' (AH s (AP e sz l)) (w.alloc (.cells cs t))∧Fr ρ s w ρ' (AH s (AP e sz l)) (w.alloc (.cells cs t)):=by
  have hle:=Co (rb:=⟨w.heap.size,0,l.length,sz⟩) hf
  obtain⟨h1,h2⟩:=h.new (o:=AP e sz l) (o':=.cells cs t) (rb:=⟨w.heap.size,0,l.length,sz⟩) hf rfl
    (Zo (hl.mono hle) _ (World.alloc_heap_new w _))
  exact⟨_,A4 _ _,h1,h2⟩
theorem HG        (h : Inv P ρ s w) {i off : Nat} {vs : List AV} {vs' : List Value} {rb : RB} (hr : ρ i = some rb) (hs : CJ     s i off vs = some s1) (hv : AU    ρ vs vs') :
    ∃w1,(storeCells ⟨rb.b,rb.off+off,none⟩ vs').run P w=.ok () w1∧Inv P ρ s1 w1∧Fr ρ s w ρ s1 w1:=by
  cases vs with
  | nil =>
    cases hv
    simp only[CJ]at hs
    injection hs with hs
    subst hs
    exact⟨w,rfl,h,Fr.refl _ _ _⟩
  | cons v0 vs0 =>
    have hsv:CJ s i off (v0::vs0)=(BA s i).bind fun r =>
      AF (FL r.mode && Nat.ble (off+(v0::vs0).length) r.n && Af (v0::vs0))
        (some (setObj (Ax s i r) i (.row { r with c:=r.c.fill off (v0::vs0),par:=none }))):=rfl
    rw[hsv]at hs
    generalize v0::vs0=vs at hs hv
    simp only[oE]at hs
    obtain⟨r,hrow,hs⟩:=hs
    obtain⟨hb,hs⟩:=AJ hs
    injection hs with hs
    subst hs
    simp only[Bool.and_eq_true,oQ]at hb
    obtain⟨⟨hown,hle⟩,hall⟩:=hb
    have hg:=Cn hrow
    have hok:Fe ρ w r rb:=h.obj i _ rb hg hr
    have hmode:r.mode≠.ro:=fun e=>by rw[e]at hown;cases hown
    obtain⟨cs,e,hblk,hsz⟩:=hok.own hmode
    have hlen:=hv.length
    have hfit:rb.off+off+vs'.length≤cs.size:=by have:=hok.le;omega
    have hrun:=run_storeCells_at P rb.b (rb.off+off) e vs' 0 cs w hblk (by simpa using hfit) (hv.oneCell hall)
    refine⟨_,hrun,?_⟩
    simp only[Nat.add_zero]
    generalize hnew:(cs.toList.take (rb.off+off)++vs'++cs.toList.drop (rb.off+off+vs'.length)).toArray=cs1
    have hblk1:(w.setRow rb.b cs1).heap[rb.b]? = some (.cells cs1 e (0,0)):=setRow_heap w rb.b cs cs1 e (0,0) hblk
    have hsize1:cs1.size=cs.size:=by rw[← hnew];simp;omega
    have hget:∀k,cs1[k]? = if rb.off+off≤k∧k<rb.off+off+vs'.length then vs'[k - (rb.off+off)]? else cs[k]? := by
      intro k
      rw[← hnew,List.getElem?_toArray]
      by_cases h1:k<rb.off+off
      · rw[if_neg (by omega),pS,oR (by simp;omega),pN h1,Array.getElem?_toList]
      · rw[pS,oT (by simp;omega)]
        have hmin:(cs.toList.take (rb.off+off)).length=rb.off+off:=by simp;omega
        rw[hmin]
        by_cases h2:k<rb.off+off+vs'.length
        · rw[if_pos (by omega),oR (by omega)]
        · rw[if_neg (by omega),oT (by omega),pD,← Array.getElem?_toList]
          congr 1
          omega
    have key:∀sx:ASt,Inv P ρ sx w→Fr ρ s w ρ sx w→sx.heap.get i=some (.row r)→(∀p,r.par=some p→p≠i→sx.heap.get p=none) →
        Inv P ρ (setObj sx i (.row { r with c:=r.c.fill off vs,par:=none })) (w.setRow rb.b cs1) ∧
        Fr ρ s w ρ (setObj sx i (.row { r with c:=r.c.fill off vs,par:=none })) (w.setRow rb.b cs1):=by
      intro sx hx hfx hgx hpx
      obtain⟨h1,h2⟩:=hx.set (o1:=.row { r with c:=r.c.fill off vs,par:=none }) (w1:=w.setRow rb.b cs1) hgx hr (by simpa[wr]using hown) hpx rfl (by simp)
        (fun b hb=>setRow_other w rb.b b cs1 hb) rfl rfl rfl (by
          refine⟨?_,hok.le,hok.sz,hok.tight,fun _=>⟨cs1,e,hblk1,by rw[hsize1];exact hsz⟩,fun p hp=>by cases hp⟩
          intro k v hk hkv
          simp only[Aj.get_fill]at hkv
          have hcell:(w.setRow rb.b cs1).cell? ⟨rb.b,rb.off+k,none⟩=cs1[rb.off+k]? := by simp[World.cell?,hblk1]
          rw[hcell,hget]
          by_cases hin:off≤k∧k<off+vs.length
          · rw [if_pos hin] at hkv
            rw[if_pos (by omega),show rb.off+k - (rb.off+off)=k - off from by omega]
            exact hv.get hkv
          · rw [if_neg hin] at hkv
            rw[if_neg (by omega)]
            obtain⟨v',h1,h2⟩:=hok.cells k v hk hkv
            refine⟨v',?_,h2⟩
            simpa[World.cell?,hblk]using h1)
      exact⟨h1,hfx.trans h2⟩
    unfold Ax
    split
    · rename_i hp
      exact key s h (Fr.refl _ _ _) hg (fun p hp' _=>by rw[hp]at hp';cases hp')
    · rename_i p hp
      by_cases hpi:p=i
      · have:Nat.beq p i=true:=by rw[hpi];simp[Nat.beq_eq]
        rw[this]
        exact key s h (Fr.refl _ _ _) hg (fun q hq hqi=>by rw[hp]at hq;injection hq with hq;exact absurd (hq.symm.trans hpi) hqi)
      · rw[Aj.beq_no hpi]
        obtain⟨rp,hrp⟩:=hok.par p hp
        obtain⟨hd,hfd⟩:=h.del hrp
        exact key (Bc s p) hd hfd (by rw[Be,if_neg (fun e=>hpi e.symm)];exact hg) (fun q hq _=>by
          rw[hp]at hq
          injection hq with hq
          subst hq
          rw[Be,if_pos rfl])
theorem A5{a b:Nat}(h:Nat.beq a b=true):a=b:=pI h
theorem VW(h:Inv P ρ s w){t:TypeId}{a v:AV}{a' v':Value}(hs:AN P s t a v=some s1)(ha:Aa ρ a a')(hv:Aa ρ v v'):
    ∃w1,(Instr.storeAt t a' v').run P w=.ok () w1∧Inv P ρ s1 w1∧Fr ρ s w ρ s1 w1:=by
  unfold AN at hs
  split at hs<;>first | (cases hs;done) | skip
  rename_i i o
  cases ha with
  | ptr hr =>
    rename_i rb
    simp only[oE]at hs
    obtain⟨n,hn,hs⟩:=hs
    obtain⟨hb,hs⟩:=AJ hs
    have hb:=A5 hb
    obtain⟨w1,h1,h2⟩:=HG h hr hs hv.cells
    refine⟨w1,?_,h2⟩
    have hc:v'.cells.size=n:=by have:=hv.cells.length;simp at this;omega
    simp[Instr.storeAt,Instr.sureAddr,storeVar,BH hn,hc,h1]
def MO(P:Program)(ρ:Rho)(s:ASt)(w:World)(sem:Sem Value)(o:Cv)(m:Bv):Prop:=
  ∃v' w' ρ',sem.run P w=.ok v' w'∧Aa ρ' (m.val s.next) v'∧Inv P ρ' (AH s o) w'∧Fr ρ s w ρ' (AH s o) w'
theorem UJ(h:Inv P ρ s w)(hf:ρ s.next=none){e:TypeId}{o:Cv}{m:Bv}(hs:BE P e=some (o,m)):
    MO P ρ s w (Instr.alloc e true (.tuple #[])) o m:=by
  unfold BE at hs
  simp only[oE]at hs
  obtain⟨z,hz,hs⟩:=hs
  injection hs with hs
  injection hs with h1 h2
  subst h1;subst h2
  obtain⟨z',hz',hzr⟩:=Ij (w:=w) ρ hz
  obtain⟨ρ',h1,h2,h3⟩:=HB h hf (e:=e) (t:=e) (sz:=0) hzr.cells
  exact⟨.pointer (some ⟨w.heap.size,0,none⟩),_,ρ',by simp[Instr.alloc,hz',newVar,newRow],Aa.ptr h1,h2,h3⟩
theorem bF(h:Inv P ρ s w)(hf:ρ s.next=none){e:TypeId}{v:AV}{v':Value}{o:Cv}{m:Bv}(hs:CL e v=some (o,m))(hv:Aa ρ v v'):
    MO P ρ s w (Instr.box e v') o m:=by
  unfold CL at hs
  injection hs with hs
  injection hs with h1 h2
  subst h1;subst h2
  obtain⟨ρ',h1,h2,h3⟩:=HB h hf (e:=e) (t:=e) (sz:=0) hv.cells
  exact⟨.pointer (some ⟨w.heap.size,0,none⟩),_,ρ',by simp[Instr.box,newVar,newRow],Aa.ptr h1,h2,h3⟩
theorem Sd(h:Inv P ρ s w)(hf:ρ s.next=none)(t:TypeId):MO P ρ s w (Instr.makeMap t none) (.map [] 0) .map:=by
  have hle:=Co (rb:=⟨w.heap.size,0,0,0⟩) hf
  obtain⟨h1,h2⟩:=h.new (o:=.map [] 0) (o':=.map #[] 0) (rb:=⟨w.heap.size,0,0,0⟩) hf rfl ⟨#[],World.alloc_heap_new w _,.nil⟩
  exact⟨.map (some w.heap.size),_,_,by simp[Instr.makeMap,AH],Aa.map (A4 _ _),h1,h2⟩
theorem LC       {place : Nat → Option (Nat × Nat)} {place' : Nat → Option (Nat × Nat)} (hp : ∀ i p, place i = some p → place' i = some p) :
    ∀ {parts:List (Nat×AV)} {parts':List (Nat×Value)} {cs l:List AV} {cs':Array Value},Dm place cs parts=some l→AU ρ cs cs'.toList →
      (parts.map (·.1)=parts'.map (·.1))→AU ρ (parts.map (·.2)) (parts'.map (·.2))→∃l',Instr.fill place' cs' parts'=some l'∧AU ρ l l'.toList:=by
  intro parts
  induction parts with
  | nil =>
    intro parts' cs l cs' h hc hm hv
    cases parts' with
    | nil=>simp[Dm]at h;subst h;exact⟨cs',rfl,hc⟩
    | cons=>simp at hm
  | cons p rest ih =>
    intro parts' cs l cs' h hc hm hv
    cases parts' with
    | nil=>simp at hm
    | cons p' rest' =>
      obtain⟨i,v⟩:=p
      obtain⟨i',v'⟩:=p'
      simp only[pR,List.cons.injEq]at hm
      obtain⟨hi,hm⟩:=hm
      skip
      subst hi
      simp only[pR]at hv
      cases hv with
      | cons hv hvs =>
        simp only[Dm,oE]at h
        obtain⟨q,hq,h⟩:=h
        obtain⟨hb,h⟩:=AJ h
        simp only[Bool.and_eq_true,oQ]at hb
        obtain⟨hb1,hb2⟩:=hb
        have hb1:=A5 hb1
        have hvc:=hv.cells
        have hvl:=hvc.length
        have hcl:=hc.length
        simp only[Array.length_toList]at hvl hcl
        have hnew:AU ρ (cs.take q.1++(v.cells++cs.drop (q.1+v.cells.length)))
            (v'.cells.zipIdx.foldl (fun cs (c,j)=>cs.setIfInBounds (q.1+j) c) cs').toList:=by
          have e:(v'.cells.zipIdx.foldl (fun cs (c,j)=>cs.setIfInBounds (q.1+j) c) cs').toList=cs'.toList.take q.1++(v'.cells.toList++cs'.toList.drop (q.1+v.cells.length)):=by
            have key:∀ (l:List Value) (k:Nat) (a:Array Value),q.1+k+l.length≤a.size →
                ((l.zipIdx k).foldl (fun cs (x:Value×Nat)=>cs.setIfInBounds (q.1+x.2) x.1) a).toList=a.toList.take (q.1+k)++(l++a.toList.drop (q.1+k+l.length)):=by
              intro l
              induction l with
              | nil=>intro k a _;simp
              | cons x l ihl =>
                intro k a hk
                simp only[oZ]at hk
                rw[List.zipIdx_cons,pE,ihl (k+1) _ (by simp;omega)]
                simp only[Array.toList_setIfInBounds,oZ]
                have e:=list_seg_step a.toList (q.1+k) x l (by simp;omega)
                simpa[pJ,pS]using e
            have:=key v'.cells.toList 0 cs' (by simp;omega)
            simp only[Nat.add_zero]at this
            rw[← Array.foldl_toList,Array.toList_zipIdx]
            rw[hvl]
            simpa using this
          rw[e]
          exact(hc.take _).append (hvc.append (hc.drop _))
        obtain⟨l',h1,h2⟩:=ih h hnew hm hvs
        refine⟨l',?_,h2⟩
        have hpq:=hp i q hq
        obtain⟨o,n⟩:=q
        simp only[Instr.fill,hpq]
        have c1:¬ (v'.cells.size≠n∨o+v'.cells.size > cs'.size):=by simp only at hb1 hb2;omega
        have:(decide (v'.cells.size≠n) || decide (o+v'.cells.size > cs'.size))=false:=by
          rw[Bool.eq_false_iff];intro hh;apply c1;simpa using hh
        simp only[this]
        exact h1
theorem HR:∀ {fs:List Field}{l:List (Nat×Nat)},Bw P fs=some l →
    ∀w:World,((fs.mapM fun f=>do pure (f.offset,← sizeOf f.type):Sem (List (Nat×Nat)))).run P w=.ok l w
  | [],l,h,w=>by simp[Bw]at h;subst h;rfl
  | f::fs,l,h,w=>by
    simp only[Bw,oE]at h
    obtain⟨n,hn,r,hr,h⟩:=h
    injection h with h
    subst h
    have ih:=HR hr w
    simp only[List.mapM_cons,Sem.run_bind,BH hn,Sem.run_pure,Result.andThen_ok,ih]
theorem UL{t:TypeId}{parts:List (Nat×AV)}{parts':Array (Nat×Value)}{v:AV}(h:Bz P t parts=some v)
    (hm:parts.map (·.1)=parts'.toList.map (·.1)) (hv:AU ρ (parts.map (·.2)) (parts'.toList.map (·.2))) (w:World):
    ∃v',(Instr.build t parts').run P w=.ok v' w∧Aa ρ v v':=by
  unfold Bz at h
  simp only[oE]at h
  obtain⟨z,hz,h⟩:=h
  obtain⟨z',hz',hzr⟩:=Ij (w:=w) ρ hz
  split at h<;>first | (cases h;done) | skip
  · rename_i fields hf
    simp only[oE]at h
    obtain⟨places,hpl,l,hl,h⟩:=h
    injection h with h
    subst h
    have hpl':=HR hpl w
    obtain⟨l',h1,h2⟩:=LC (place':=fun i=>(places.toArray)[i]?) (fun i p hp=>by simpa using hp) hl hzr.cells hm hv
    refine⟨.agg l',?_,.agg h2⟩
    have hma:(fields.mapM fun f=>do pure (f.offset,← sizeOf f.type):Sem (Array (Nat×Nat))).run P w=.ok places.toArray w:=by
      rw[Array.mapM_eq_mapM_toList,Sem.run_map,hpl']
      rfl
    simp only[Instr.build,Sem.run_bind,hz',Result.andThen_ok,AL hf,hma,h1,Sem.run_pure]
  · rename_i len e hf
    simp only[oE]at h
    obtain⟨n,hn,l,hl,h⟩:=h
    injection h with h
    subst h
    obtain⟨l',h1,h2⟩:=LC (place':=fun i=>some (i * n,n)) (fun i p hp=>hp) hl hzr.cells hm hv
    refine⟨.agg l',?_,.agg h2⟩
    simp only[Instr.build,Sem.run_bind,hz',Result.andThen_ok,AL hf,BH hn,h1,Sem.run_pure]
theorem OB      {z : AV} {z' : Value} {n c : Nat} (hz : Aa   ρ z z') (hl : z.cells.length = n) :
    AU ρ (rep z.cells c) (((Array.range (c * n)).map (z'.cells[· % z'.cells.size]!)).toList):=by
  have hc:=hz.cells
  have hlen:z'.cells.size=n:=by have:=hc.length;simp at this;omega
  have hrl:∀c,(rep z.cells c).length=c * n:=by
    intro c
    induction c with
    | zero=>simp[rep]
    | succ c ih=>simp[rep,ih,hl,Nat.succ_mul];omega
  have hrg:∀ (c k:Nat),k<c * n→(rep z.cells c)[k]? = z.cells[k % n]? := by
    intro c
    induction c with
    | zero=>intro k hk;omega
    | succ c ih =>
      intro k hk
      simp only[rep]
      by_cases h1:k<n
      · rw[oR (by omega),Nat.mod_eq_of_lt h1]
      · rw [oT                         (by omega), hl, ih (k - n) (by rw [Nat.succ_mul] at hk; omega)]
        rw[← Nat.mod_eq_sub_mod (by omega)]
  refine AU.of_get (by simp[hrl]) ?_
  intro k v v' hv hv'
  have hk:k<c * n:=by
    rcases oI k (c * n)with h | h
    · exact h
    · rw[oe (by rw[hrl];omega)]at hv;cases hv
  have hn:0<n:=by
    rcases pO n with h | h
    · subst h;simp at hk
    · exact h
  rw[hrg c k hk]at hv
  obtain⟨u,h1,h2⟩:=hc.get hv
  have:v'=u:=by
    rw[Array.getElem?_toList,Array.getElem?_map,Array.getElem?_range]at hv'
    rw[if_pos hk]at hv'
    simp only[Option.map_some]at hv'
    injection hv' with hv'
    rw[← hv',hlen]
    rw[Array.getElem?_toList]at h1
    rw[getElem!_def,h1]
  rw[this]
  exact h2
theorem OG(h:Inv P ρ s w)(hf:ρ s.next=none){t:TypeId}{len:Nat}{parts:List (Nat×AV)}{parts':Array (Nat×Value)}{o:Cv}(hs:Ad P t len parts=some o)
    (hm:parts.map (·.1)=parts'.toList.map (·.1)) (hv:AU ρ (parts.map (·.2)) (parts'.toList.map (·.2))):
    MO P ρ s w (Instr.buildSlice t len parts') o (.slice len):=by
  unfold Ad at hs
  split at hs<;>first | (cases hs;done) | skip
  rename_i e he
  simp only[oE]at hs
  obtain⟨n,hn,hs⟩:=hs
  obtain⟨hb,hs⟩:=AJ hs
  have hb:len * n≤16777216:=by simpa[oQ]using hb
  simp only[oE]at hs
  obtain⟨z,hz,hs⟩:=hs
  obtain⟨hc,hs⟩:=AJ hs
  simp only[oE]at hs
  obtain⟨l,hl,hs⟩:=hs
  injection hs with hs
  subst hs
  obtain⟨z',hz',hzr⟩:=Ij (w:=w) ρ hz
  have hz2:=OB (c:=len) hzr (A5 hc)
  obtain⟨l',h1,h2⟩:=LC (place':=fun i=>some (i * n,n)) (fun i p hp=>hp) hl hz2 hm hv
  obtain⟨ρ',g1,g2,g3⟩:=HB h hf (e:=e) (t:=e) (sz:=n) h2
  refine⟨.slice (some ⟨w.heap.size,0,none⟩) len len,_,ρ',?_,Aa.slice g1 (oD _),g2,g3⟩
  have hbig:¬ len * n > 2 ^ 24:=by omega
  by_cases h0:len * n=0
  · have hr0:Array.range 0=#[]:=by simp
    rw[h0,hr0]at h1
    simp only[Array.map_empty]at h1
    simp[Instr.buildSlice,AL he,BH hn,h0,hr0,h1,newRow]
  · simp[Instr.buildSlice,AL he,BH hn,hbig,h0,hz',h1,newRow]
theorem MI(h:Inv P ρ s w)(hf:ρ s.next=none){t:TypeId}{l c:AV}{l' c':Value}{o:Cv}{m:Bv}(hs:Hm P t l c=some (o,m))
    (hl:Aa ρ l l') (hc:Aa ρ c c'):MO P ρ s w (Instr.makeSlice t l' c') o m:=by
  unfold Hm at hs
  split at hs<;>first | (cases hs;done) | skip
  rename_i e l0 c0 he
  cases hl;cases hc
  simp only[oE]at hs
  obtain⟨by_,hby,n,hn,hs⟩:=hs
  obtain⟨hb,hs⟩:=AJ hs
  simp only[Bool.and_eq_true,oQ]at hb
  obtain⟨⟨hlc,hb1⟩,hb2⟩:=hb
  have hlc:=A5 hlc
  subst hlc
  simp only[oE]at hs
  obtain⟨z,hz,hs⟩:=hs
  obtain⟨hc,hs⟩:=AJ hs
  injection hs with hs
  injection hs with hs1 hs2
  subst hs1;subst hs2
  obtain⟨z',hz',hzr⟩:=Ij (w:=w) ρ hz
  have hz2:=OB (c:=l0) hzr (A5 hc)
  obtain⟨i,hi,hi2⟩:=VK (w:=w) hby
  obtain⟨ρ',g1,g2,g3⟩:=HB h hf (e:=e) (t:=e) (sz:=n) hz2
  refine⟨.slice (some ⟨w.heap.size,0,none⟩) l0 l0,_,ρ',?_,Aa.slice g1 (oD _),g2,g3⟩
  have hw:IntKind.i64.wrap (l0:Int)=(l0:Int):=KO (k:=.i64) (n:=Int.ofNat l0) (by simp[B0,oQ];omega)
  have hmul:((by_:Int) * (l0:Int))≤1099511627776:=by
    have:((by_ * l0:Nat):Int)≤1099511627776:=by omega
    simpa using this
  have h1:¬ ((l0:Int)<0):=by omega
  have h2:¬ ((i.bytes:Int) * (l0:Int) > 2 ^ 48):=by rw[hi2];omega
  have h3:¬ ((281474976710656:Int)<(i.bytes:Int) * (l0:Int)):=by omega
  by_cases h0:l0 * n=0
  · have hr0:Array.range 0=#[]:=by simp
    simp[Instr.makeSlice,AL he,asInt,asIntOf,hi,hw,h1,h3,BH hn,h0,newRow,hr0]
  · simp[Instr.makeSlice,AL he,asInt,asIntOf,hi,hw,h1,h3,BH hn,h0,hz',newRow]
end
end
end Go.Proofs.Ytilhhmkdcoajnaa.Am
