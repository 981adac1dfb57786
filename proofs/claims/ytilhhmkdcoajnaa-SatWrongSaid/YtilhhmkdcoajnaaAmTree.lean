/- Binary tries over Nat keys, made for evaluation by the kernel: get, set, and their laws; conditions: none. -/
namespace Go.Proofs.Ytilhhmkdcoajnaa.Am
noncomputable section
inductive Tree (α:Type) where
  | leaf
  | node (v:Option α) (l r:Tree α)
namespace Tree
variable{α:Type}
def get:Tree α→Nat→Option α
  | .leaf,_=>none
  | .node v l r,k=>match k with
    | 0=>v
    | k+1=>bif Nat.beq (k % 2) 0 then l.get (k / 2)else r.get (k / 2)
def val:Tree α→Option α
  | .leaf=>none
  | .node v _ _=>v
def left:Tree α→Tree α
  | .leaf=>.leaf
  | .node _ l _=>l
def right:Tree α→Tree α
  | .leaf=>.leaf
  | .node _ _ r=>r
def nodeL(v:Option α)(l r:Tree α):Tree α:=
  match l with
  | .leaf=>.node v .leaf r
  | .node x a b=>.node v (.node x a b) r
def nodeR(v:Option α)(l r:Tree α):Tree α:=
  match r with
  | .leaf=>.node v l .leaf
  | .node x a b=>.node v l (.node x a b)
def setF(v:Option α):Nat→Tree α→Nat→Tree α
  | 0,t,_=>t
  | f+1,t,k=>match k with
    | 0=>.node v t.left t.right
    | k+1=>bif Nat.beq (k % 2) 0 then nodeL t.val (setF v f t.left (k / 2)) t.right
      else nodeR t.val t.left (setF v f t.right (k / 2))
def put(t:Tree α)(k:Nat)(v:Option α):Tree α:=setF v (k+1) t k
def set(t:Tree α)(k:Nat)(v:α):Tree α:=t.put k (some v)
def del(t:Tree α)(k:Nat):Tree α:=t.put k none
theorem beq_no{a b:Nat}(h:¬ a=b):Nat.beq a b=false:=by
  cases e:Nat.beq a b with
  | false=>rfl
  | true=>exact absurd (Nat.eq_of_beq_eq_true e) h
theorem nodeL_eq(v:Option α)(l r:Tree α):nodeL v l r=.node v l r:=by cases l<;>rfl
theorem nodeR_eq(v:Option α)(l r:Tree α):nodeR v l r=.node v l r:=by cases r<;>rfl
theorem get_zero(t:Tree α):t.get 0=t.val:=by cases t<;>rfl
theorem get_succ(t:Tree α)(k:Nat):t.get (k+1)=if k % 2=0 then t.left.get (k / 2)else t.right.get (k / 2):=by
  cases t with
  | leaf=>simp[get,left,right]
  | node v l r =>
    by_cases h:k % 2=0
    · simp[get,left,h]
    · have:Nat.beq (k % 2) 0=false:=beq_no h
      simp[get,right,h,this]
theorem get_setF (v : Option α) : ∀ (f : Nat) (t : Tree α) (k j : Nat), k < f → (setF v f t k).get j = if j = k then v else t.get j := by
  intro f
  induction f with
  | zero=>intro t k j h;omega
  | succ f ih =>
    intro t k j h
    cases k with
    | zero =>
      cases j with
      | zero=>simp[setF,get_zero,val]
      | succ j=>simp[setF,get_succ,left,right]
    | succ k =>
      by_cases hk:k % 2=0
      · have hb:Nat.beq (k % 2) 0=true:=by rw[hk];rfl
        simp only[setF,hb,cond_true,nodeL_eq]
        cases j with
        | zero=>simp[get_zero,val]
        | succ j =>
          by_cases hj:j % 2=0
          · rw[get_succ,get_succ,if_pos hj,if_pos hj]
            simp only[left]
            rw[ih _ _ _ (by omega)]
            by_cases e:j=k
            · subst e;simp
            · rw[if_neg (by omega),if_neg (by omega)]
          · rw[get_succ,get_succ,if_neg hj,if_neg hj,if_neg (by omega)]
            simp only[right]
      · have hb:Nat.beq (k % 2) 0=false:=beq_no hk
        simp only[setF,hb,cond_false,nodeR_eq]
        cases j with
        | zero=>simp[get_zero,val]
        | succ j =>
          by_cases hj:j % 2=0
          · rw[get_succ,get_succ,if_pos hj,if_pos hj,if_neg (by omega)]
            simp only[left]
          · rw[get_succ,get_succ,if_neg hj,if_neg hj]
            simp only[right]
            rw[ih _ _ _ (by omega)]
            by_cases e:j=k
            · subst e;simp
            · rw[if_neg (by omega),if_neg (by omega)]
theorem get_put(t:Tree α)(k j:Nat)(v:Option α):(t.put k v).get j=if j=k then v else t.get j:=get_setF v _ t k j (by omega)
theorem get_set(t:Tree α)(k j:Nat)(v:α):(t.set k v).get j=if j=k then some v else t.get j:=get_put t k j _
theorem get_del(t:Tree α)(k j:Nat):(t.del k).get j=if j=k then none else t.get j:=get_put t k j _
def fill(t:Tree α)(k:Nat):List α→Tree α
  | []=>t
  | v::l=>fill (t.set k v) (k+1) l
theorem get_fill(l:List α):∀ (t:Tree α)(k j:Nat),(t.fill k l).get j=if k≤j∧j<k+l.length then l[j - k]? else t.get j:=by
  induction l with
  | nil=>intro t k j;simp[fill];omega
  | cons v l ih =>
    intro t k j
    simp only[fill,ih,get_set,List.length_cons]
    by_cases h1:k+1≤j∧j<k+1+l.length
    · rw [if_pos h1, if_pos (by omega), show j - k = (j - (k + 1)) + 1 from by omega]
      rfl
    · rw[if_neg h1]
      by_cases h2:j=k
      · subst h2;simp
      · rw[if_neg h2,if_neg (by omega)]
def take(t:Tree α)(k:Nat):Nat→Option (List α)
  | 0=>some []
  | n+1=>match t.get k with
    | none=>none
    | some v=>match take t (k+1) n with
      | none=>none
      | some l=>some (v::l)
theorem take_length{t:Tree α}{k n:Nat}{l:List α}(h:t.take k n=some l):l.length=n:=by
  induction n generalizing k l with
  | zero=>simp[take]at h;subst h;rfl
  | succ n ih =>
    simp only[take]at h
    split at h
    · cases h
    · split at h
      · cases h
      · rename_i h2;injection h with h;subst h;simp[ih h2]
theorem take_get {t : Tree α} {k n : Nat} {l : List α} (h : t.take k n = some l) (j : Nat) (hj : j < n) : t.get (k + j) = l[j]? := by
  induction n generalizing k l j with
  | zero=>omega
  | succ n ih =>
    simp only[take]at h
    split at h
    · cases h
    · rename_i v hv
      split at h
      · cases h
      · rename_i l' h2
        injection h with h
        subst h
        cases j with
        | zero=>simpa using hv
        | succ j=>rw[show k+(j+1)=k+1+j from by omega,ih h2 j (by omega)];rfl
end Tree
end
end Go.Proofs.Ytilhhmkdcoajnaa.Am
