/-
Append, at a slice that the call owns; and what owning means over heaps.
Conditions: none. Generic: it speaks of no program.
-/
import Derived.Laws.AppendOwn
import Derived.Laws.OwnMore
import Derived.Test.YtfphceknmgadgaaGreatDoorVmOpen
set_option linter.unusedSimpArgs false
set_option linter.unusedVariables false
namespace Go.Vm
def Dn(h:AY)(base:Nat)(e:TypeId)(size:Nat)(v:Value)(n:Nat)(xs:List Value):Prop:=
 World.ownsRow {(default:World)with heap:=h} base e size v n xs
theorem Le{w:World}{base:Nat}{e:TypeId}{size:Nat}{v:Value}{n:Nat}{xs:List Value}:Dn w.heap base e size v n xs↔w.ownsRow base e size v n xs:=Iff.rfl
structure GrewB(h h':AY)(row:Option Nat):Prop where
 le:h.size≤h'.size
 old: ∀k,k<h.size→some k≠row→h'[k]? =h[k]?
theorem Gy{P:Program}{t ty e:TypeId}{size bytes:Nat}{z:Value}{h:AY}{K:Value→AY→Prop}{base n m c:Nat}{v:Value}{xs news:List Value}{a:Addr}
  (hs:O5 P t=some (e,size,bytes)) (hz:DD P e=some z) (hzs:z.cells.size=size) (hsz:0<size)
  (hown:Dn h base e size v n xs) (hl:news.length=m*size) (hnews: ∀j u,news[j]? =some u→G9 h (a.add j)=some u) (h1: ∀u∈news,u.oneCell'=true)
  (h63:n+m≤maxLen) (hbytes:(n+m)*bytes≤140737488355328) (hbase:base≤h.size)
  (hK: ∀v' h',Dn h' base e size v' (n+m) (xs++news)→GrewB h h' v.ownBlock→(v'=.slice none 0 0↔v=.slice none 0 0∧m=0)→K v' h'):
  DA P (Builtin.append_ #[t,t] ty #[v,.slice (some a) m c]) h K:=by
 intro w hw
 subst hw
 obtain⟨ht,i,hi,e1,e2⟩:=FP hs
 have hz':i.zero=some z:=by unfold DD at hz;rw[hi]at hz;exact hz
 obtain⟨v',w',hr,h2,h3,h4⟩:=run_append_own w base t ty e i z size bytes ht hi hz' e1 e2 hzs hsz v n xs (Le.1 hown) a m c news hl hnews h1 h63 hbytes hbase
 exact⟨v',w',hr,⟨h3.os,h3.tape,h3.output⟩,hK v' w'.heap (Le.2 h2) ⟨h3.size,fun k hk hne=>h3.block k hk hne⟩ h4⟩
theorem Dn.nil(h:AY)(base:Nat)(e:TypeId)(size:Nat):Dn h base e size (.slice none 0 0) 0 []:=World.ownsRow_nil _ base e size
theorem Dn.out{h:AY}{base:Nat}{e:TypeId}{size:Nat}{v:Value}{n:Nat}{xs:List Value}(o:Dn h base e size v n xs):
  xs.length=n*size∧((v=.slice none 0 0∧n=0)∨ ∃g cap cur,v=.slice (some ⟨g,0,none⟩) n cap∧base≤g∧h[g]? =some (.cells cur e)∧n≤cap∧cap≤maxLen∧cur.size=cap*size∧cur.toList.take (n*size)=xs):=o
theorem Dn.of{h:AY}{base:Nat}{e:TypeId}{size g n cap:Nat}{cur:Array Value}{xs:List Value}(hb:base≤g)(hg:h[g]? =some (.cells cur e))(h1:n≤cap)(h2:cap≤maxLen)(h3:cur.size=cap*size)(h4:cur.toList.take (n*size)=xs)(h5:xs.length=n*size):
  Dn h base e size (.slice (some ⟨g,0,none⟩) n cap) n xs:=⟨h5,.inr ⟨g,cap,cur,rfl,hb,hg,h1,h2,h3,h4⟩⟩
theorem Dn.row{h:AY}{base:Nat}{e:TypeId}{size:Nat}{v:Value}{n:Nat}{xs:List Value}(o:Dn h base e size v n xs): ∀k,v.ownBlock=some k→base≤k:=fun k hk=>(World.ownsRow.lt o k hk).1
theorem GrewB.grew{h0 h h':AY}{row:Option Nat}(g:Grew h0 h)(b:GrewB h h' row)(hr: ∀k,row=some k→h0.size≤k):Grew h0 h':=
 ⟨Nat.le_trans g.le b.le,fun k hk=>by
  rw[b.old k (Nat.lt_of_lt_of_le hk g.le) (fun e=>by have:=hr k e.symm;omega)]
  exact g.old k hk⟩
theorem Dn.grew{h h':AY}{base:Nat}{e:TypeId}{size:Nat}{v:Value}{n:Nat}{xs:List Value}(o:Dn h base e size v n xs)(g:Grew h h'):Dn h' base e size v n xs:=by
 rcases o with⟨h1,h2|⟨r,cap,cur,h3,h4,h5,h6⟩⟩
 ·exact⟨h1,.inl h2⟩
 ·exact⟨h1,.inr ⟨r,cap,cur,h3,h4,g.get h5,h6⟩⟩
theorem Dn.mono{h:AY}{base base':Nat}{e:TypeId}{size:Nat}{v:Value}{n:Nat}{xs:List Value}(o:Dn h base e size v n xs)(hb:base'≤base):Dn h base' e size v n xs:=by
 rcases o with⟨h1,h2|⟨r,cap,cur,h3,h4,h5⟩⟩
 ·exact⟨h1,.inl h2⟩
 ·exact⟨h1,.inr ⟨r,cap,cur,h3,Nat.le_trans hb h4,h5⟩⟩
theorem Xb(h:AY)(xs:List Value)(e:TypeId)(fr:Nat×Nat): ∀(j:Nat) (u:Value),xs[j]? =some u→G9 (h.push (.cells xs.toArray e fr)) (Addr.add ⟨h.size,0,none⟩ j)=some u:=by
 intro j u hj
 rw[Fa]
 simp[G9,hj]
theorem K9(h:AY)(b:Nat)(hb:b=h.size)(xs:List Value)(e:TypeId)(fr:Nat×Nat): ∀(j:Nat) (u:Value),xs[j]? =some u→G9 (h.push (.cells xs.toArray e fr)) (Addr.add ⟨b,0,none⟩ j)=some u:=by
 subst hb
 exact Xb h xs e fr
theorem Dn.slice{h:AY}{base:Nat}{e:TypeId}{size:Nat}{v:Value}{n:Nat}{xs:List Value}(o:Dn h base e size v n xs): ∃p cap,v=.slice p n cap:=by
 rcases o with⟨h1,⟨rfl,rfl⟩|⟨r,cap,cur,rfl,h4⟩⟩
 ·exact⟨_,_,rfl⟩
 ·exact⟨_,_,rfl⟩
theorem Dn.read{h:AY}{base:Nat}{e:TypeId}{size:Nat}{v:Value}{n:Nat}{xs:List Value}(o:Dn h base e size v n xs)(hn:0<n):
  ∃g cap cur,v=.slice (some ⟨g,0,none⟩) n cap∧base≤g∧h[g]? =some (.cells cur e)∧ ∀i,i<n→D0 (some (.cells cur e)) (i*size) size=some ((xs.drop (i*size)).take size).toArray:=by
 obtain⟨h1,h2⟩:=o.out
 rcases h2 with⟨_,h3⟩|⟨g,cap,cur,rfl,h3,h4,h5,h6,h7,h8⟩
 ·omega
 ·refine⟨g,cap,cur,rfl,h3,h4,fun i hi=> ?_⟩
  have e1:i*size+size≤n*size:=by rw[←Nat.succ_mul];exact Nat.mul_le_mul_right _ hi
  have e2:n*size≤cap*size:=Nat.mul_le_mul_right _ h5
  rw[DX,if_pos (by omega)]
  congr 1
  apply Array.ext'
  simp only[Array.toList_extract]
  rw[←h8]
  simp only[List.extract_eq_take_drop,List.drop_take,List.take_take]
  congr 1
  omega
theorem XJ{α β:Type}(f:α→List β)(sz:Nat)(hf: ∀x,(f x).length=sz): ∀(l:List α) (i:Nat) (x:α),l[i]? =some x→((l.flatMap f).drop (i*sz)).take sz=f x
 | [],i,x,h=>by simp at h
 |y::l,0,x,h=>by
  simp only[List.getElem?_cons_zero,Option.some.injEq]at h
  subst h
  simp[List.take_left' (hf y)]
 |y::l,i+1,x,h=>by
  have:=XJ f sz hf l i x (by simpa using h)
  rw[List.flatMap_cons,Nat.succ_mul,Nat.add_comm,←List.drop_drop,List.drop_left' (hf y)]
  exact this
theorem GU{α β:Type}(f:α→List β)(sz:Nat)(hf: ∀x,(f x).length=sz): ∀(l:List α),(l.flatMap f).length=l.length*sz
 | []=>by simp
 |y::l=>by simp[GU f sz hf l,hf,Nat.succ_mul,Nat.add_comm]
theorem qS(a:Nat):(a=a+1+1)=False:=by exact eq_false (by omega)
theorem pA(a:Nat):(a+1+1=a)=False:=by exact eq_false (by omega)
theorem qW(a:Nat):(a<a+1+1)=True:=by exact eq_true (by omega)
theorem pn(a:Nat):(a=a+1+1+1)=False:=by exact eq_false (by omega)
theorem pU(a:Nat):(a+1+1+1=a)=False:=by exact eq_false (by omega)
theorem pd(a:Nat):(a<a+1+1+1)=True:=by exact eq_true (by omega)
theorem qP(a:Nat):(a=a+1+1+1+1)=False:=by exact eq_false (by omega)
theorem pV(a:Nat):(a+1+1+1+1=a)=False:=by exact eq_false (by omega)
theorem oc(a:Nat):(a<a+1+1+1+1)=True:=by exact eq_true (by omega)
theorem qX(a:Nat):(a=a+1+1+1+1+1)=False:=by exact eq_false (by omega)
theorem o8(a:Nat):(a+1+1+1+1+1=a)=False:=by exact eq_false (by omega)
theorem oM(a:Nat):(a<a+1+1+1+1+1)=True:=by exact eq_true (by omega)
theorem om(a:Nat):(a=a+1+1+1+1+1+1)=False:=by exact eq_false (by omega)
theorem qk(a:Nat):(a+1+1+1+1+1+1=a)=False:=by exact eq_false (by omega)
theorem qT(a:Nat):(a<a+1+1+1+1+1+1)=True:=by exact eq_true (by omega)
theorem pP(a:Nat):(a=a+1+1+1+1+1+1+1)=False:=by exact eq_false (by omega)
theorem qC(a:Nat):(a+1+1+1+1+1+1+1=a)=False:=by exact eq_false (by omega)
theorem ou(a:Nat):(a<a+1+1+1+1+1+1+1)=True:=by exact eq_true (by omega)
theorem pE(a:Nat):(a=a+1+1+1+1+1+1+1+1)=False:=by exact eq_false (by omega)
theorem pS(a:Nat):(a+1+1+1+1+1+1+1+1=a)=False:=by exact eq_false (by omega)
theorem qK(a:Nat):(a<a+1+1+1+1+1+1+1+1)=True:=by exact eq_true (by omega)
theorem oh(a:Nat):(a=a+1+1+1+1+1+1+1+1+1)=False:=by exact eq_false (by omega)
theorem pL(a:Nat):(a+1+1+1+1+1+1+1+1+1=a)=False:=by exact eq_false (by omega)
theorem oe(a:Nat):(a<a+1+1+1+1+1+1+1+1+1)=True:=by exact eq_true (by omega)
theorem ki(a:Nat):(a=a+1+1+1+1+1+1+1+1+1+1)=False:=by exact eq_false (by omega)
theorem jD(a:Nat):(a+1+1+1+1+1+1+1+1+1+1=a)=False:=by exact eq_false (by omega)
theorem iq(a:Nat):(a<a+1+1+1+1+1+1+1+1+1+1)=True:=by exact eq_true (by omega)
theorem rS:type_of% (An @qS (An @pA (An @qW (An @pn (An @pU (An @pd (An @qP (An @pV (An @oc (An @qX (An @o8 (An @oM (An @om (An @qk (An @qT (An @pP (An @qC (An @ou (An @pE (An @pS (An @qK (An @oh (An @pL (An @oe (An @ki (An @jD @iq)))))))))))))))))))))))))):=⟨@qS,@pA,@qW,@pn,@pU,@pd,@qP,@pV,@oc,@qX,@o8,@oM,@om,@qk,@qT,@pP,@qC,@ou,@pE,@pS,@qK,@oh,@pL,@oe,@ki,@jD,@iq⟩
theorem iC:type_of% (An @List.append_eq.{0} (An @rS (An @Nat.zero_mul (An @List.toList_toArray.{0} (An @Option.some.injEq.{0} (An @Prod.mk.injEq.{0,0} (An @Bool.false_eq_true (An @Bool.true_eq_false (An @and_self (An @and_true (An @true_and (An @and_false (An @false_and (An @or_false (An @or_true (An @false_or (An @true_or (An @Bool.and_self (An @Bool.and_true (An @Bool.true_and (An @Bool.false_and (An @Bool.and_false (An @Bool.false_or (An @Bool.or_false (An @Bool.true_or (An @Bool.or_true (An @Bool.not_true (An @Bool.not_false (An @not_false_eq_true (An @not_true_eq_false (An @ne_eq.{1} (An @decide_true (An @decide_false (An @decide_eq_true_eq (An @List.cons_append.{0} (An @List.nil_append.{0} (An @List.length_cons.{0} (An @List.length_nil.{0} (An @List.size_toArray.{0} (An @List.setIfInBounds_toArray.{0} (An @List.set_cons_zero.{0} (An @List.set_cons_succ.{0} (An @List.getElem?_toArray.{0} (An @List.getElem?_cons_zero.{0} (An @List.getElem?_cons_succ.{0} (An @List.extract_toArray.{0} (An @List.extract_eq_take_drop.{0} (An @List.drop_zero.{0} (An @List.drop_succ_cons.{0} (An @List.drop_nil.{0} (An @List.take_zero.{0} (An @List.take_succ_cons.{0} (An @List.take_nil.{0} (An @Nat.zero_add (An @Nat.add_zero (An @Array.size_push.{0} (An @Int.natCast_nonneg (An @Int.toNat_natCast (An @Int.cast_ofNat_Int (An @Option.map_some.{0,0} (An @Option.map_none.{0,0} (An @Int.le_refl (An @Int.toNat_zero (An @beq_false (An @beq_true (An @bne_self_eq_false.{0} (An @beq_self_eq_true.{0} (An @Bool.not_eq_false' (An @beq_eq_false_iff_ne.{0} (An @Int.lt_irrefl (An @Nat.lt_irrefl (An @Xx (An @bN (An @oq (An @p9 (An @gZ (An @Nat.left_eq_add (An @Nat.add_eq_left (An @Nat.add_right_cancel_iff (An @Nat.add_left_cancel_iff (An @Nat.lt_add_one (An @Nat.succ_ne_self (An @Nat.one_ne_zero (An @W7 (An @Option.isNone_some.{0} (An @Option.isNone_none.{0} (An @Option.isSome_some.{0} (An @Option.isSome_none.{0} (An @Bool.not_eq_true' (An @decide_eq_false_iff_not (An @Bool.or_eq_true (An @Bool.and_eq_true (An @beq_iff_eq.{0} @bne_iff_ne.{0}))))))))))))))))))))))))))))))))))))))))))))))))))))))))))))))))))))))))))))))))))))))))))))):=⟨@List.append_eq.{0},@rS,@Nat.zero_mul,@List.toList_toArray.{0},@Option.some.injEq.{0},@Prod.mk.injEq.{0,0},@Bool.false_eq_true,@Bool.true_eq_false,@and_self,@and_true,@true_and,@and_false,@false_and,@or_false,@or_true,@false_or,@true_or,@Bool.and_self,@Bool.and_true,@Bool.true_and,@Bool.false_and,@Bool.and_false,@Bool.false_or,@Bool.or_false,@Bool.true_or,@Bool.or_true,@Bool.not_true,@Bool.not_false,@not_false_eq_true,@not_true_eq_false,@ne_eq.{1},@decide_true,@decide_false,@decide_eq_true_eq,@List.cons_append.{0},@List.nil_append.{0},@List.length_cons.{0},@List.length_nil.{0},@List.size_toArray.{0},@List.setIfInBounds_toArray.{0},@List.set_cons_zero.{0},@List.set_cons_succ.{0},@List.getElem?_toArray.{0},@List.getElem?_cons_zero.{0},@List.getElem?_cons_succ.{0},@List.extract_toArray.{0},@List.extract_eq_take_drop.{0},@List.drop_zero.{0},@List.drop_succ_cons.{0},@List.drop_nil.{0},@List.take_zero.{0},@List.take_succ_cons.{0},@List.take_nil.{0},@Nat.zero_add,@Nat.add_zero,@Array.size_push.{0},@Int.natCast_nonneg,@Int.toNat_natCast,@Int.cast_ofNat_Int,@Option.map_some.{0,0},@Option.map_none.{0,0},@Int.le_refl,@Int.toNat_zero,@beq_false,@beq_true,@bne_self_eq_false.{0},@beq_self_eq_true.{0},@Bool.not_eq_false',@beq_eq_false_iff_ne.{0},@Int.lt_irrefl,@Nat.lt_irrefl,@Xx,@bN,@oq,@p9,@gZ,@Nat.left_eq_add,@Nat.add_eq_left,@Nat.add_right_cancel_iff,@Nat.add_left_cancel_iff,@Nat.lt_add_one,@Nat.succ_ne_self,@Nat.one_ne_zero,@W7,@Option.isNone_some.{0},@Option.isNone_none.{0},@Option.isSome_some.{0},@Option.isSome_none.{0},@Bool.not_eq_true',@decide_eq_false_iff_not,@Bool.or_eq_true,@Bool.and_eq_true,@beq_iff_eq.{0},@bne_iff_ne.{0}⟩
end Go.Vm
