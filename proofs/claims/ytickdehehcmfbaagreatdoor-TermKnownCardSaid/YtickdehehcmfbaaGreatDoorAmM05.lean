/- The constants of layer 14's laws, and closed calls on them, run by the kernel (printed by dev/ttab.py); conditions: none. -/
import Derived.Test.YtickdehehcmfbaaGreatDoorAmM04
import Derived.Test.YtickdehehcmfbaaGreatDoorAmM01
set_option linter.unusedVariables false
set_option linter.unusedSimpArgs false
namespace Go.Proofs.YtickdehehcmfbaaGreatDoor.Am
open Go Go.Proofs
noncomputable section
def Eg:List (List Nat×List AV):=[
 ([110,117,108,108],[.int .i64 0,.bool false,.str [],.str [],.slice none 0 (some 0),.slice none 0 (some 0),.int .i64 0]),
 ([116,114,117,101],[.int .i64 1,.bool true,.str [],.str [],.slice none 0 (some 0),.slice none 0 (some 0),.int .i64 0]),
 ([102,97,108,115,101],[.int .i64 1,.bool false,.str [],.str [],.slice none 0 (some 0),.slice none 0 (some 0),.int .i64 0]),
 ([48],[.int .i64 2,.bool false,.str [48],.str [],.slice none 0 (some 0),.slice none 0 (some 0),.int .i64 0]),
 ([49],[.int .i64 2,.bool false,.str [49],.str [],.slice none 0 (some 0),.slice none 0 (some 0),.int .i64 0]),
 ([45,53],[.int .i64 2,.bool false,.str [45,53],.str [],.slice none 0 (some 0),.slice none 0 (some 0),.int .i64 0]),
 ([49,56,52,52,54,55,52,52,48,55,51,55,48,57,53,53,49,54,49,54],[.int .i64 2,.bool false,.str [49,56,52,52,54,55,52,52,48,55,51,55,48,57,53,53,49,54,49,54],.str [],.slice none 0 (some 0),.slice none 0 (some 0),.int .i64 0]),
 ([34,97,34],[.int .i64 3,.bool false,.str [],.str [97],.slice none 0 (some 0),.slice none 0 (some 0),.int .i64 0]),
 ([34,98,34],[.int .i64 3,.bool false,.str [],.str [98],.slice none 0 (some 0),.slice none 0 (some 0),.int .i64 0]),
 ([34,34],[.int .i64 3,.bool false,.str [],.str [],.slice none 0 (some 0),.slice none 0 (some 0),.int .i64 0]),
 ([40,100,105,99,116,41],[.int .i64 4,.bool false,.str [],.str [],.slice none 0 (some 0),.slice none 0 (some 0),.int .i64 0]),
 ([34,112,117,116,34],[.int .i64 3,.bool false,.str [],.str [112,117,116],.slice none 0 (some 0),.slice none 0 (some 0),.int .i64 0]),
 ([55,55],[.int .i64 2,.bool false,.str [55,55],.str [],.slice none 0 (some 0),.slice none 0 (some 0),.int .i64 0])]
def At:List AV:=[.int .u64 1,.int .u64 10,.int .u64 100,.int .u64 1000,.int .u64 10000,.int .u64 100000,.int .u64 1000000,.int .u64 10000000,.int .u64 100000000,.int .u64 1000000000,.int .u64 10000000000,.int .u64 100000000000,.int .u64 1000000000000,.int .u64 10000000000000,.int .u64 100000000000000,.int .u64 1000000000000000,.int .u64 10000000000000000,.int .u64 100000000000000000,.int .u64 1000000000000000000,.int .u64 10000000000000000000]
def Sk:List Row:=[
 ⟨44,[.agg [.int .i64 0,.bool false,.str [],.str [],.slice none 0 (some 0),.slice none 0 (some 0),.int .i64 0]],.bool true⟩,
 ⟨30,[.agg [.int .i64 0,.bool false,.str [],.str [],.slice none 0 (some 0),.slice none 0 (some 0),.int .i64 0]],.str [110,117,108,108]⟩,
 ⟨44,[.agg [.int .i64 1,.bool true,.str [],.str [],.slice none 0 (some 0),.slice none 0 (some 0),.int .i64 0]],.bool true⟩,
 ⟨30,[.agg [.int .i64 1,.bool true,.str [],.str [],.slice none 0 (some 0),.slice none 0 (some 0),.int .i64 0]],.str [116,114,117,101]⟩,
 ⟨44,[.agg [.int .i64 1,.bool false,.str [],.str [],.slice none 0 (some 0),.slice none 0 (some 0),.int .i64 0]],.bool true⟩,
 ⟨30,[.agg [.int .i64 1,.bool false,.str [],.str [],.slice none 0 (some 0),.slice none 0 (some 0),.int .i64 0]],.str [102,97,108,115,101]⟩,
 ⟨44,[.agg [.int .i64 2,.bool false,.str [48],.str [],.slice none 0 (some 0),.slice none 0 (some 0),.int .i64 0]],.bool true⟩,
 ⟨30,[.agg [.int .i64 2,.bool false,.str [48],.str [],.slice none 0 (some 0),.slice none 0 (some 0),.int .i64 0]],.str [48]⟩,
 ⟨44,[.agg [.int .i64 2,.bool false,.str [49],.str [],.slice none 0 (some 0),.slice none 0 (some 0),.int .i64 0]],.bool true⟩,
 ⟨30,[.agg [.int .i64 2,.bool false,.str [49],.str [],.slice none 0 (some 0),.slice none 0 (some 0),.int .i64 0]],.str [49]⟩,
 ⟨44,[.agg [.int .i64 2,.bool false,.str [45,53],.str [],.slice none 0 (some 0),.slice none 0 (some 0),.int .i64 0]],.bool true⟩,
 ⟨30,[.agg [.int .i64 2,.bool false,.str [45,53],.str [],.slice none 0 (some 0),.slice none 0 (some 0),.int .i64 0]],.str [45,53]⟩,
 ⟨44,[.agg [.int .i64 2,.bool false,.str [49,56,52,52,54,55,52,52,48,55,51,55,48,57,53,53,49,54,49,54],.str [],.slice none 0 (some 0),.slice none 0 (some 0),.int .i64 0]],.bool true⟩,
 ⟨30,[.agg [.int .i64 2,.bool false,.str [49,56,52,52,54,55,52,52,48,55,51,55,48,57,53,53,49,54,49,54],.str [],.slice none 0 (some 0),.slice none 0 (some 0),.int .i64 0]],.str [49,56,52,52,54,55,52,52,48,55,51,55,48,57,53,53,49,54,49,54]⟩]
def Sl:List Row:=[
 ⟨44,[.agg [.int .i64 3,.bool false,.str [],.str [97],.slice none 0 (some 0),.slice none 0 (some 0),.int .i64 0]],.bool true⟩,
 ⟨30,[.agg [.int .i64 3,.bool false,.str [],.str [97],.slice none 0 (some 0),.slice none 0 (some 0),.int .i64 0]],.str [34,97,34]⟩,
 ⟨44,[.agg [.int .i64 3,.bool false,.str [],.str [98],.slice none 0 (some 0),.slice none 0 (some 0),.int .i64 0]],.bool true⟩,
 ⟨30,[.agg [.int .i64 3,.bool false,.str [],.str [98],.slice none 0 (some 0),.slice none 0 (some 0),.int .i64 0]],.str [34,98,34]⟩,
 ⟨44,[.agg [.int .i64 3,.bool false,.str [],.str [],.slice none 0 (some 0),.slice none 0 (some 0),.int .i64 0]],.bool true⟩,
 ⟨30,[.agg [.int .i64 3,.bool false,.str [],.str [],.slice none 0 (some 0),.slice none 0 (some 0),.int .i64 0]],.str [34,34]⟩,
 ⟨44,[.agg [.int .i64 4,.bool false,.str [],.str [],.slice none 0 (some 0),.slice none 0 (some 0),.int .i64 0]],.bool true⟩,
 ⟨30,[.agg [.int .i64 4,.bool false,.str [],.str [],.slice none 0 (some 0),.slice none 0 (some 0),.int .i64 0]],.str [40,100,105,99,116,41]⟩,
 ⟨44,[.agg [.int .i64 3,.bool false,.str [],.str [112,117,116],.slice none 0 (some 0),.slice none 0 (some 0),.int .i64 0]],.bool true⟩,
 ⟨30,[.agg [.int .i64 3,.bool false,.str [],.str [112,117,116],.slice none 0 (some 0),.slice none 0 (some 0),.int .i64 0]],.str [34,112,117,116,34]⟩,
 ⟨44,[.agg [.int .i64 2,.bool false,.str [55,55],.str [],.slice none 0 (some 0),.slice none 0 (some 0),.int .i64 0]],.bool true⟩,
 ⟨30,[.agg [.int .i64 2,.bool false,.str [55,55],.str [],.slice none 0 (some 0),.slice none 0 (some 0),.int .i64 0]],.str [55,55]⟩,
 ⟨45,[.int .i64 (-3)],.str [45,51]⟩,
 ⟨45,[.int .i64 (-2)],.str [45,50]⟩]
def Sm:List Row:=[
 ⟨45,[.int .i64 (-1)],.str [45,49]⟩,
 ⟨45,[.int .i64 (0)],.str [48]⟩,
 ⟨45,[.int .i64 (1)],.str [49]⟩,
 ⟨45,[.int .i64 (2)],.str [50]⟩,
 ⟨45,[.int .i64 (3)],.str [51]⟩,
 ⟨45,[.int .i64 (4)],.str [52]⟩,
 ⟨45,[.int .i64 (5)],.str [53]⟩,
 ⟨45,[.int .i64 (6)],.str [54]⟩,
 ⟨45,[.int .i64 (7)],.str [55]⟩,
 ⟨45,[.int .i64 (8)],.str [56]⟩,
 ⟨45,[.int .i64 (9)],.str [57]⟩,
 ⟨45,[.int .i64 (10)],.str [49,48]⟩,
 ⟨44,[.agg [.int .i64 5,.bool false,.str [],.str [],.slice none 0 (some 0),.slice none 0 (some 0),.int .i64 3]],.bool true⟩,
 ⟨44,[.agg [.int .i64 2,.bool false,.str [48,49],.str [],.slice none 0 (some 0),.slice none 0 (some 0),.int .i64 0]],.bool false⟩]
def Sn:List Row:=[
 ⟨127,[.agg [.int .i64 0,.bool false,.str [],.str [],.slice none 0 (some 0),.slice none 0 (some 0),.int .i64 0],.agg [.int .i64 0,.bool false,.str [],.str [],.slice none 0 (some 0),.slice none 0 (some 0),.int .i64 0]],.bool true⟩,
 ⟨127,[.agg [.int .i64 0,.bool false,.str [],.str [],.slice none 0 (some 0),.slice none 0 (some 0),.int .i64 0],.agg [.int .i64 1,.bool true,.str [],.str [],.slice none 0 (some 0),.slice none 0 (some 0),.int .i64 0]],.bool false⟩,
 ⟨127,[.agg [.int .i64 0,.bool false,.str [],.str [],.slice none 0 (some 0),.slice none 0 (some 0),.int .i64 0],.agg [.int .i64 1,.bool false,.str [],.str [],.slice none 0 (some 0),.slice none 0 (some 0),.int .i64 0]],.bool false⟩,
 ⟨127,[.agg [.int .i64 0,.bool false,.str [],.str [],.slice none 0 (some 0),.slice none 0 (some 0),.int .i64 0],.agg [.int .i64 2,.bool false,.str [48],.str [],.slice none 0 (some 0),.slice none 0 (some 0),.int .i64 0]],.bool false⟩,
 ⟨127,[.agg [.int .i64 0,.bool false,.str [],.str [],.slice none 0 (some 0),.slice none 0 (some 0),.int .i64 0],.agg [.int .i64 2,.bool false,.str [49],.str [],.slice none 0 (some 0),.slice none 0 (some 0),.int .i64 0]],.bool false⟩,
 ⟨127,[.agg [.int .i64 0,.bool false,.str [],.str [],.slice none 0 (some 0),.slice none 0 (some 0),.int .i64 0],.agg [.int .i64 2,.bool false,.str [45,53],.str [],.slice none 0 (some 0),.slice none 0 (some 0),.int .i64 0]],.bool false⟩,
 ⟨127,[.agg [.int .i64 0,.bool false,.str [],.str [],.slice none 0 (some 0),.slice none 0 (some 0),.int .i64 0],.agg [.int .i64 2,.bool false,.str [49,56,52,52,54,55,52,52,48,55,51,55,48,57,53,53,49,54,49,54],.str [],.slice none 0 (some 0),.slice none 0 (some 0),.int .i64 0]],.bool false⟩,
 ⟨127,[.agg [.int .i64 0,.bool false,.str [],.str [],.slice none 0 (some 0),.slice none 0 (some 0),.int .i64 0],.agg [.int .i64 3,.bool false,.str [],.str [97],.slice none 0 (some 0),.slice none 0 (some 0),.int .i64 0]],.bool false⟩,
 ⟨127,[.agg [.int .i64 0,.bool false,.str [],.str [],.slice none 0 (some 0),.slice none 0 (some 0),.int .i64 0],.agg [.int .i64 3,.bool false,.str [],.str [98],.slice none 0 (some 0),.slice none 0 (some 0),.int .i64 0]],.bool false⟩,
 ⟨127,[.agg [.int .i64 0,.bool false,.str [],.str [],.slice none 0 (some 0),.slice none 0 (some 0),.int .i64 0],.agg [.int .i64 3,.bool false,.str [],.str [],.slice none 0 (some 0),.slice none 0 (some 0),.int .i64 0]],.bool false⟩,
 ⟨127,[.agg [.int .i64 0,.bool false,.str [],.str [],.slice none 0 (some 0),.slice none 0 (some 0),.int .i64 0],.agg [.int .i64 4,.bool false,.str [],.str [],.slice none 0 (some 0),.slice none 0 (some 0),.int .i64 0]],.bool false⟩,
 ⟨127,[.agg [.int .i64 1,.bool true,.str [],.str [],.slice none 0 (some 0),.slice none 0 (some 0),.int .i64 0],.agg [.int .i64 0,.bool false,.str [],.str [],.slice none 0 (some 0),.slice none 0 (some 0),.int .i64 0]],.bool false⟩,
 ⟨127,[.agg [.int .i64 1,.bool true,.str [],.str [],.slice none 0 (some 0),.slice none 0 (some 0),.int .i64 0],.agg [.int .i64 1,.bool true,.str [],.str [],.slice none 0 (some 0),.slice none 0 (some 0),.int .i64 0]],.bool true⟩,
 ⟨127,[.agg [.int .i64 1,.bool true,.str [],.str [],.slice none 0 (some 0),.slice none 0 (some 0),.int .i64 0],.agg [.int .i64 1,.bool false,.str [],.str [],.slice none 0 (some 0),.slice none 0 (some 0),.int .i64 0]],.bool false⟩]
def So:List Row:=[
 ⟨127,[.agg [.int .i64 1,.bool true,.str [],.str [],.slice none 0 (some 0),.slice none 0 (some 0),.int .i64 0],.agg [.int .i64 2,.bool false,.str [48],.str [],.slice none 0 (some 0),.slice none 0 (some 0),.int .i64 0]],.bool false⟩,
 ⟨127,[.agg [.int .i64 1,.bool true,.str [],.str [],.slice none 0 (some 0),.slice none 0 (some 0),.int .i64 0],.agg [.int .i64 2,.bool false,.str [49],.str [],.slice none 0 (some 0),.slice none 0 (some 0),.int .i64 0]],.bool false⟩,
 ⟨127,[.agg [.int .i64 1,.bool true,.str [],.str [],.slice none 0 (some 0),.slice none 0 (some 0),.int .i64 0],.agg [.int .i64 2,.bool false,.str [45,53],.str [],.slice none 0 (some 0),.slice none 0 (some 0),.int .i64 0]],.bool false⟩,
 ⟨127,[.agg [.int .i64 1,.bool true,.str [],.str [],.slice none 0 (some 0),.slice none 0 (some 0),.int .i64 0],.agg [.int .i64 2,.bool false,.str [49,56,52,52,54,55,52,52,48,55,51,55,48,57,53,53,49,54,49,54],.str [],.slice none 0 (some 0),.slice none 0 (some 0),.int .i64 0]],.bool false⟩,
 ⟨127,[.agg [.int .i64 1,.bool true,.str [],.str [],.slice none 0 (some 0),.slice none 0 (some 0),.int .i64 0],.agg [.int .i64 3,.bool false,.str [],.str [97],.slice none 0 (some 0),.slice none 0 (some 0),.int .i64 0]],.bool false⟩,
 ⟨127,[.agg [.int .i64 1,.bool true,.str [],.str [],.slice none 0 (some 0),.slice none 0 (some 0),.int .i64 0],.agg [.int .i64 3,.bool false,.str [],.str [98],.slice none 0 (some 0),.slice none 0 (some 0),.int .i64 0]],.bool false⟩,
 ⟨127,[.agg [.int .i64 1,.bool true,.str [],.str [],.slice none 0 (some 0),.slice none 0 (some 0),.int .i64 0],.agg [.int .i64 3,.bool false,.str [],.str [],.slice none 0 (some 0),.slice none 0 (some 0),.int .i64 0]],.bool false⟩,
 ⟨127,[.agg [.int .i64 1,.bool true,.str [],.str [],.slice none 0 (some 0),.slice none 0 (some 0),.int .i64 0],.agg [.int .i64 4,.bool false,.str [],.str [],.slice none 0 (some 0),.slice none 0 (some 0),.int .i64 0]],.bool false⟩,
 ⟨127,[.agg [.int .i64 1,.bool false,.str [],.str [],.slice none 0 (some 0),.slice none 0 (some 0),.int .i64 0],.agg [.int .i64 0,.bool false,.str [],.str [],.slice none 0 (some 0),.slice none 0 (some 0),.int .i64 0]],.bool false⟩,
 ⟨127,[.agg [.int .i64 1,.bool false,.str [],.str [],.slice none 0 (some 0),.slice none 0 (some 0),.int .i64 0],.agg [.int .i64 1,.bool true,.str [],.str [],.slice none 0 (some 0),.slice none 0 (some 0),.int .i64 0]],.bool false⟩,
 ⟨127,[.agg [.int .i64 1,.bool false,.str [],.str [],.slice none 0 (some 0),.slice none 0 (some 0),.int .i64 0],.agg [.int .i64 1,.bool false,.str [],.str [],.slice none 0 (some 0),.slice none 0 (some 0),.int .i64 0]],.bool true⟩,
 ⟨127,[.agg [.int .i64 1,.bool false,.str [],.str [],.slice none 0 (some 0),.slice none 0 (some 0),.int .i64 0],.agg [.int .i64 2,.bool false,.str [48],.str [],.slice none 0 (some 0),.slice none 0 (some 0),.int .i64 0]],.bool false⟩,
 ⟨127,[.agg [.int .i64 1,.bool false,.str [],.str [],.slice none 0 (some 0),.slice none 0 (some 0),.int .i64 0],.agg [.int .i64 2,.bool false,.str [49],.str [],.slice none 0 (some 0),.slice none 0 (some 0),.int .i64 0]],.bool false⟩,
 ⟨127,[.agg [.int .i64 1,.bool false,.str [],.str [],.slice none 0 (some 0),.slice none 0 (some 0),.int .i64 0],.agg [.int .i64 2,.bool false,.str [45,53],.str [],.slice none 0 (some 0),.slice none 0 (some 0),.int .i64 0]],.bool false⟩]
def Sp:List Row:=[
 ⟨127,[.agg [.int .i64 1,.bool false,.str [],.str [],.slice none 0 (some 0),.slice none 0 (some 0),.int .i64 0],.agg [.int .i64 2,.bool false,.str [49,56,52,52,54,55,52,52,48,55,51,55,48,57,53,53,49,54,49,54],.str [],.slice none 0 (some 0),.slice none 0 (some 0),.int .i64 0]],.bool false⟩,
 ⟨127,[.agg [.int .i64 1,.bool false,.str [],.str [],.slice none 0 (some 0),.slice none 0 (some 0),.int .i64 0],.agg [.int .i64 3,.bool false,.str [],.str [97],.slice none 0 (some 0),.slice none 0 (some 0),.int .i64 0]],.bool false⟩,
 ⟨127,[.agg [.int .i64 1,.bool false,.str [],.str [],.slice none 0 (some 0),.slice none 0 (some 0),.int .i64 0],.agg [.int .i64 3,.bool false,.str [],.str [98],.slice none 0 (some 0),.slice none 0 (some 0),.int .i64 0]],.bool false⟩,
 ⟨127,[.agg [.int .i64 1,.bool false,.str [],.str [],.slice none 0 (some 0),.slice none 0 (some 0),.int .i64 0],.agg [.int .i64 3,.bool false,.str [],.str [],.slice none 0 (some 0),.slice none 0 (some 0),.int .i64 0]],.bool false⟩,
 ⟨127,[.agg [.int .i64 1,.bool false,.str [],.str [],.slice none 0 (some 0),.slice none 0 (some 0),.int .i64 0],.agg [.int .i64 4,.bool false,.str [],.str [],.slice none 0 (some 0),.slice none 0 (some 0),.int .i64 0]],.bool false⟩,
 ⟨127,[.agg [.int .i64 2,.bool false,.str [48],.str [],.slice none 0 (some 0),.slice none 0 (some 0),.int .i64 0],.agg [.int .i64 0,.bool false,.str [],.str [],.slice none 0 (some 0),.slice none 0 (some 0),.int .i64 0]],.bool false⟩,
 ⟨127,[.agg [.int .i64 2,.bool false,.str [48],.str [],.slice none 0 (some 0),.slice none 0 (some 0),.int .i64 0],.agg [.int .i64 1,.bool true,.str [],.str [],.slice none 0 (some 0),.slice none 0 (some 0),.int .i64 0]],.bool false⟩,
 ⟨127,[.agg [.int .i64 2,.bool false,.str [48],.str [],.slice none 0 (some 0),.slice none 0 (some 0),.int .i64 0],.agg [.int .i64 1,.bool false,.str [],.str [],.slice none 0 (some 0),.slice none 0 (some 0),.int .i64 0]],.bool false⟩,
 ⟨127,[.agg [.int .i64 2,.bool false,.str [48],.str [],.slice none 0 (some 0),.slice none 0 (some 0),.int .i64 0],.agg [.int .i64 2,.bool false,.str [48],.str [],.slice none 0 (some 0),.slice none 0 (some 0),.int .i64 0]],.bool true⟩,
 ⟨127,[.agg [.int .i64 2,.bool false,.str [48],.str [],.slice none 0 (some 0),.slice none 0 (some 0),.int .i64 0],.agg [.int .i64 2,.bool false,.str [49],.str [],.slice none 0 (some 0),.slice none 0 (some 0),.int .i64 0]],.bool false⟩,
 ⟨127,[.agg [.int .i64 2,.bool false,.str [48],.str [],.slice none 0 (some 0),.slice none 0 (some 0),.int .i64 0],.agg [.int .i64 2,.bool false,.str [45,53],.str [],.slice none 0 (some 0),.slice none 0 (some 0),.int .i64 0]],.bool false⟩,
 ⟨127,[.agg [.int .i64 2,.bool false,.str [48],.str [],.slice none 0 (some 0),.slice none 0 (some 0),.int .i64 0],.agg [.int .i64 2,.bool false,.str [49,56,52,52,54,55,52,52,48,55,51,55,48,57,53,53,49,54,49,54],.str [],.slice none 0 (some 0),.slice none 0 (some 0),.int .i64 0]],.bool false⟩,
 ⟨127,[.agg [.int .i64 2,.bool false,.str [48],.str [],.slice none 0 (some 0),.slice none 0 (some 0),.int .i64 0],.agg [.int .i64 3,.bool false,.str [],.str [97],.slice none 0 (some 0),.slice none 0 (some 0),.int .i64 0]],.bool false⟩,
 ⟨127,[.agg [.int .i64 2,.bool false,.str [48],.str [],.slice none 0 (some 0),.slice none 0 (some 0),.int .i64 0],.agg [.int .i64 3,.bool false,.str [],.str [98],.slice none 0 (some 0),.slice none 0 (some 0),.int .i64 0]],.bool false⟩]
def Sq:List Row:=[
 ⟨127,[.agg [.int .i64 2,.bool false,.str [48],.str [],.slice none 0 (some 0),.slice none 0 (some 0),.int .i64 0],.agg [.int .i64 3,.bool false,.str [],.str [],.slice none 0 (some 0),.slice none 0 (some 0),.int .i64 0]],.bool false⟩,
 ⟨127,[.agg [.int .i64 2,.bool false,.str [48],.str [],.slice none 0 (some 0),.slice none 0 (some 0),.int .i64 0],.agg [.int .i64 4,.bool false,.str [],.str [],.slice none 0 (some 0),.slice none 0 (some 0),.int .i64 0]],.bool false⟩,
 ⟨127,[.agg [.int .i64 2,.bool false,.str [49],.str [],.slice none 0 (some 0),.slice none 0 (some 0),.int .i64 0],.agg [.int .i64 0,.bool false,.str [],.str [],.slice none 0 (some 0),.slice none 0 (some 0),.int .i64 0]],.bool false⟩,
 ⟨127,[.agg [.int .i64 2,.bool false,.str [49],.str [],.slice none 0 (some 0),.slice none 0 (some 0),.int .i64 0],.agg [.int .i64 1,.bool true,.str [],.str [],.slice none 0 (some 0),.slice none 0 (some 0),.int .i64 0]],.bool false⟩,
 ⟨127,[.agg [.int .i64 2,.bool false,.str [49],.str [],.slice none 0 (some 0),.slice none 0 (some 0),.int .i64 0],.agg [.int .i64 1,.bool false,.str [],.str [],.slice none 0 (some 0),.slice none 0 (some 0),.int .i64 0]],.bool false⟩,
 ⟨127,[.agg [.int .i64 2,.bool false,.str [49],.str [],.slice none 0 (some 0),.slice none 0 (some 0),.int .i64 0],.agg [.int .i64 2,.bool false,.str [48],.str [],.slice none 0 (some 0),.slice none 0 (some 0),.int .i64 0]],.bool false⟩,
 ⟨127,[.agg [.int .i64 2,.bool false,.str [49],.str [],.slice none 0 (some 0),.slice none 0 (some 0),.int .i64 0],.agg [.int .i64 2,.bool false,.str [49],.str [],.slice none 0 (some 0),.slice none 0 (some 0),.int .i64 0]],.bool true⟩,
 ⟨127,[.agg [.int .i64 2,.bool false,.str [49],.str [],.slice none 0 (some 0),.slice none 0 (some 0),.int .i64 0],.agg [.int .i64 2,.bool false,.str [45,53],.str [],.slice none 0 (some 0),.slice none 0 (some 0),.int .i64 0]],.bool false⟩,
 ⟨127,[.agg [.int .i64 2,.bool false,.str [49],.str [],.slice none 0 (some 0),.slice none 0 (some 0),.int .i64 0],.agg [.int .i64 2,.bool false,.str [49,56,52,52,54,55,52,52,48,55,51,55,48,57,53,53,49,54,49,54],.str [],.slice none 0 (some 0),.slice none 0 (some 0),.int .i64 0]],.bool false⟩,
 ⟨127,[.agg [.int .i64 2,.bool false,.str [49],.str [],.slice none 0 (some 0),.slice none 0 (some 0),.int .i64 0],.agg [.int .i64 3,.bool false,.str [],.str [97],.slice none 0 (some 0),.slice none 0 (some 0),.int .i64 0]],.bool false⟩,
 ⟨127,[.agg [.int .i64 2,.bool false,.str [49],.str [],.slice none 0 (some 0),.slice none 0 (some 0),.int .i64 0],.agg [.int .i64 3,.bool false,.str [],.str [98],.slice none 0 (some 0),.slice none 0 (some 0),.int .i64 0]],.bool false⟩,
 ⟨127,[.agg [.int .i64 2,.bool false,.str [49],.str [],.slice none 0 (some 0),.slice none 0 (some 0),.int .i64 0],.agg [.int .i64 3,.bool false,.str [],.str [],.slice none 0 (some 0),.slice none 0 (some 0),.int .i64 0]],.bool false⟩,
 ⟨127,[.agg [.int .i64 2,.bool false,.str [49],.str [],.slice none 0 (some 0),.slice none 0 (some 0),.int .i64 0],.agg [.int .i64 4,.bool false,.str [],.str [],.slice none 0 (some 0),.slice none 0 (some 0),.int .i64 0]],.bool false⟩,
 ⟨127,[.agg [.int .i64 2,.bool false,.str [45,53],.str [],.slice none 0 (some 0),.slice none 0 (some 0),.int .i64 0],.agg [.int .i64 0,.bool false,.str [],.str [],.slice none 0 (some 0),.slice none 0 (some 0),.int .i64 0]],.bool false⟩]
def Sr:List Row:=[
 ⟨127,[.agg [.int .i64 2,.bool false,.str [45,53],.str [],.slice none 0 (some 0),.slice none 0 (some 0),.int .i64 0],.agg [.int .i64 1,.bool true,.str [],.str [],.slice none 0 (some 0),.slice none 0 (some 0),.int .i64 0]],.bool false⟩,
 ⟨127,[.agg [.int .i64 2,.bool false,.str [45,53],.str [],.slice none 0 (some 0),.slice none 0 (some 0),.int .i64 0],.agg [.int .i64 1,.bool false,.str [],.str [],.slice none 0 (some 0),.slice none 0 (some 0),.int .i64 0]],.bool false⟩,
 ⟨127,[.agg [.int .i64 2,.bool false,.str [45,53],.str [],.slice none 0 (some 0),.slice none 0 (some 0),.int .i64 0],.agg [.int .i64 2,.bool false,.str [48],.str [],.slice none 0 (some 0),.slice none 0 (some 0),.int .i64 0]],.bool false⟩,
 ⟨127,[.agg [.int .i64 2,.bool false,.str [45,53],.str [],.slice none 0 (some 0),.slice none 0 (some 0),.int .i64 0],.agg [.int .i64 2,.bool false,.str [49],.str [],.slice none 0 (some 0),.slice none 0 (some 0),.int .i64 0]],.bool false⟩,
 ⟨127,[.agg [.int .i64 2,.bool false,.str [45,53],.str [],.slice none 0 (some 0),.slice none 0 (some 0),.int .i64 0],.agg [.int .i64 2,.bool false,.str [45,53],.str [],.slice none 0 (some 0),.slice none 0 (some 0),.int .i64 0]],.bool true⟩,
 ⟨127,[.agg [.int .i64 2,.bool false,.str [45,53],.str [],.slice none 0 (some 0),.slice none 0 (some 0),.int .i64 0],.agg [.int .i64 2,.bool false,.str [49,56,52,52,54,55,52,52,48,55,51,55,48,57,53,53,49,54,49,54],.str [],.slice none 0 (some 0),.slice none 0 (some 0),.int .i64 0]],.bool false⟩,
 ⟨127,[.agg [.int .i64 2,.bool false,.str [45,53],.str [],.slice none 0 (some 0),.slice none 0 (some 0),.int .i64 0],.agg [.int .i64 3,.bool false,.str [],.str [97],.slice none 0 (some 0),.slice none 0 (some 0),.int .i64 0]],.bool false⟩,
 ⟨127,[.agg [.int .i64 2,.bool false,.str [45,53],.str [],.slice none 0 (some 0),.slice none 0 (some 0),.int .i64 0],.agg [.int .i64 3,.bool false,.str [],.str [98],.slice none 0 (some 0),.slice none 0 (some 0),.int .i64 0]],.bool false⟩,
 ⟨127,[.agg [.int .i64 2,.bool false,.str [45,53],.str [],.slice none 0 (some 0),.slice none 0 (some 0),.int .i64 0],.agg [.int .i64 3,.bool false,.str [],.str [],.slice none 0 (some 0),.slice none 0 (some 0),.int .i64 0]],.bool false⟩,
 ⟨127,[.agg [.int .i64 2,.bool false,.str [45,53],.str [],.slice none 0 (some 0),.slice none 0 (some 0),.int .i64 0],.agg [.int .i64 4,.bool false,.str [],.str [],.slice none 0 (some 0),.slice none 0 (some 0),.int .i64 0]],.bool false⟩,
 ⟨127,[.agg [.int .i64 2,.bool false,.str [49,56,52,52,54,55,52,52,48,55,51,55,48,57,53,53,49,54,49,54],.str [],.slice none 0 (some 0),.slice none 0 (some 0),.int .i64 0],.agg [.int .i64 0,.bool false,.str [],.str [],.slice none 0 (some 0),.slice none 0 (some 0),.int .i64 0]],.bool false⟩,
 ⟨127,[.agg [.int .i64 2,.bool false,.str [49,56,52,52,54,55,52,52,48,55,51,55,48,57,53,53,49,54,49,54],.str [],.slice none 0 (some 0),.slice none 0 (some 0),.int .i64 0],.agg [.int .i64 1,.bool true,.str [],.str [],.slice none 0 (some 0),.slice none 0 (some 0),.int .i64 0]],.bool false⟩,
 ⟨127,[.agg [.int .i64 2,.bool false,.str [49,56,52,52,54,55,52,52,48,55,51,55,48,57,53,53,49,54,49,54],.str [],.slice none 0 (some 0),.slice none 0 (some 0),.int .i64 0],.agg [.int .i64 1,.bool false,.str [],.str [],.slice none 0 (some 0),.slice none 0 (some 0),.int .i64 0]],.bool false⟩,
 ⟨127,[.agg [.int .i64 2,.bool false,.str [49,56,52,52,54,55,52,52,48,55,51,55,48,57,53,53,49,54,49,54],.str [],.slice none 0 (some 0),.slice none 0 (some 0),.int .i64 0],.agg [.int .i64 2,.bool false,.str [48],.str [],.slice none 0 (some 0),.slice none 0 (some 0),.int .i64 0]],.bool false⟩]
def Ss:List Row:=[
 ⟨127,[.agg [.int .i64 2,.bool false,.str [49,56,52,52,54,55,52,52,48,55,51,55,48,57,53,53,49,54,49,54],.str [],.slice none 0 (some 0),.slice none 0 (some 0),.int .i64 0],.agg [.int .i64 2,.bool false,.str [49],.str [],.slice none 0 (some 0),.slice none 0 (some 0),.int .i64 0]],.bool false⟩,
 ⟨127,[.agg [.int .i64 2,.bool false,.str [49,56,52,52,54,55,52,52,48,55,51,55,48,57,53,53,49,54,49,54],.str [],.slice none 0 (some 0),.slice none 0 (some 0),.int .i64 0],.agg [.int .i64 2,.bool false,.str [45,53],.str [],.slice none 0 (some 0),.slice none 0 (some 0),.int .i64 0]],.bool false⟩,
 ⟨127,[.agg [.int .i64 2,.bool false,.str [49,56,52,52,54,55,52,52,48,55,51,55,48,57,53,53,49,54,49,54],.str [],.slice none 0 (some 0),.slice none 0 (some 0),.int .i64 0],.agg [.int .i64 2,.bool false,.str [49,56,52,52,54,55,52,52,48,55,51,55,48,57,53,53,49,54,49,54],.str [],.slice none 0 (some 0),.slice none 0 (some 0),.int .i64 0]],.bool true⟩,
 ⟨127,[.agg [.int .i64 2,.bool false,.str [49,56,52,52,54,55,52,52,48,55,51,55,48,57,53,53,49,54,49,54],.str [],.slice none 0 (some 0),.slice none 0 (some 0),.int .i64 0],.agg [.int .i64 3,.bool false,.str [],.str [97],.slice none 0 (some 0),.slice none 0 (some 0),.int .i64 0]],.bool false⟩,
 ⟨127,[.agg [.int .i64 2,.bool false,.str [49,56,52,52,54,55,52,52,48,55,51,55,48,57,53,53,49,54,49,54],.str [],.slice none 0 (some 0),.slice none 0 (some 0),.int .i64 0],.agg [.int .i64 3,.bool false,.str [],.str [98],.slice none 0 (some 0),.slice none 0 (some 0),.int .i64 0]],.bool false⟩,
 ⟨127,[.agg [.int .i64 2,.bool false,.str [49,56,52,52,54,55,52,52,48,55,51,55,48,57,53,53,49,54,49,54],.str [],.slice none 0 (some 0),.slice none 0 (some 0),.int .i64 0],.agg [.int .i64 3,.bool false,.str [],.str [],.slice none 0 (some 0),.slice none 0 (some 0),.int .i64 0]],.bool false⟩,
 ⟨127,[.agg [.int .i64 2,.bool false,.str [49,56,52,52,54,55,52,52,48,55,51,55,48,57,53,53,49,54,49,54],.str [],.slice none 0 (some 0),.slice none 0 (some 0),.int .i64 0],.agg [.int .i64 4,.bool false,.str [],.str [],.slice none 0 (some 0),.slice none 0 (some 0),.int .i64 0]],.bool false⟩,
 ⟨127,[.agg [.int .i64 3,.bool false,.str [],.str [97],.slice none 0 (some 0),.slice none 0 (some 0),.int .i64 0],.agg [.int .i64 0,.bool false,.str [],.str [],.slice none 0 (some 0),.slice none 0 (some 0),.int .i64 0]],.bool false⟩,
 ⟨127,[.agg [.int .i64 3,.bool false,.str [],.str [97],.slice none 0 (some 0),.slice none 0 (some 0),.int .i64 0],.agg [.int .i64 1,.bool true,.str [],.str [],.slice none 0 (some 0),.slice none 0 (some 0),.int .i64 0]],.bool false⟩,
 ⟨127,[.agg [.int .i64 3,.bool false,.str [],.str [97],.slice none 0 (some 0),.slice none 0 (some 0),.int .i64 0],.agg [.int .i64 1,.bool false,.str [],.str [],.slice none 0 (some 0),.slice none 0 (some 0),.int .i64 0]],.bool false⟩,
 ⟨127,[.agg [.int .i64 3,.bool false,.str [],.str [97],.slice none 0 (some 0),.slice none 0 (some 0),.int .i64 0],.agg [.int .i64 2,.bool false,.str [48],.str [],.slice none 0 (some 0),.slice none 0 (some 0),.int .i64 0]],.bool false⟩,
 ⟨127,[.agg [.int .i64 3,.bool false,.str [],.str [97],.slice none 0 (some 0),.slice none 0 (some 0),.int .i64 0],.agg [.int .i64 2,.bool false,.str [49],.str [],.slice none 0 (some 0),.slice none 0 (some 0),.int .i64 0]],.bool false⟩,
 ⟨127,[.agg [.int .i64 3,.bool false,.str [],.str [97],.slice none 0 (some 0),.slice none 0 (some 0),.int .i64 0],.agg [.int .i64 2,.bool false,.str [45,53],.str [],.slice none 0 (some 0),.slice none 0 (some 0),.int .i64 0]],.bool false⟩,
 ⟨127,[.agg [.int .i64 3,.bool false,.str [],.str [97],.slice none 0 (some 0),.slice none 0 (some 0),.int .i64 0],.agg [.int .i64 2,.bool false,.str [49,56,52,52,54,55,52,52,48,55,51,55,48,57,53,53,49,54,49,54],.str [],.slice none 0 (some 0),.slice none 0 (some 0),.int .i64 0]],.bool false⟩]
def St:List Row:=[
 ⟨127,[.agg [.int .i64 3,.bool false,.str [],.str [97],.slice none 0 (some 0),.slice none 0 (some 0),.int .i64 0],.agg [.int .i64 3,.bool false,.str [],.str [97],.slice none 0 (some 0),.slice none 0 (some 0),.int .i64 0]],.bool true⟩,
 ⟨127,[.agg [.int .i64 3,.bool false,.str [],.str [97],.slice none 0 (some 0),.slice none 0 (some 0),.int .i64 0],.agg [.int .i64 3,.bool false,.str [],.str [98],.slice none 0 (some 0),.slice none 0 (some 0),.int .i64 0]],.bool false⟩,
 ⟨127,[.agg [.int .i64 3,.bool false,.str [],.str [97],.slice none 0 (some 0),.slice none 0 (some 0),.int .i64 0],.agg [.int .i64 3,.bool false,.str [],.str [],.slice none 0 (some 0),.slice none 0 (some 0),.int .i64 0]],.bool false⟩,
 ⟨127,[.agg [.int .i64 3,.bool false,.str [],.str [97],.slice none 0 (some 0),.slice none 0 (some 0),.int .i64 0],.agg [.int .i64 4,.bool false,.str [],.str [],.slice none 0 (some 0),.slice none 0 (some 0),.int .i64 0]],.bool false⟩,
 ⟨127,[.agg [.int .i64 3,.bool false,.str [],.str [98],.slice none 0 (some 0),.slice none 0 (some 0),.int .i64 0],.agg [.int .i64 0,.bool false,.str [],.str [],.slice none 0 (some 0),.slice none 0 (some 0),.int .i64 0]],.bool false⟩,
 ⟨127,[.agg [.int .i64 3,.bool false,.str [],.str [98],.slice none 0 (some 0),.slice none 0 (some 0),.int .i64 0],.agg [.int .i64 1,.bool true,.str [],.str [],.slice none 0 (some 0),.slice none 0 (some 0),.int .i64 0]],.bool false⟩,
 ⟨127,[.agg [.int .i64 3,.bool false,.str [],.str [98],.slice none 0 (some 0),.slice none 0 (some 0),.int .i64 0],.agg [.int .i64 1,.bool false,.str [],.str [],.slice none 0 (some 0),.slice none 0 (some 0),.int .i64 0]],.bool false⟩,
 ⟨127,[.agg [.int .i64 3,.bool false,.str [],.str [98],.slice none 0 (some 0),.slice none 0 (some 0),.int .i64 0],.agg [.int .i64 2,.bool false,.str [48],.str [],.slice none 0 (some 0),.slice none 0 (some 0),.int .i64 0]],.bool false⟩,
 ⟨127,[.agg [.int .i64 3,.bool false,.str [],.str [98],.slice none 0 (some 0),.slice none 0 (some 0),.int .i64 0],.agg [.int .i64 2,.bool false,.str [49],.str [],.slice none 0 (some 0),.slice none 0 (some 0),.int .i64 0]],.bool false⟩,
 ⟨127,[.agg [.int .i64 3,.bool false,.str [],.str [98],.slice none 0 (some 0),.slice none 0 (some 0),.int .i64 0],.agg [.int .i64 2,.bool false,.str [45,53],.str [],.slice none 0 (some 0),.slice none 0 (some 0),.int .i64 0]],.bool false⟩,
 ⟨127,[.agg [.int .i64 3,.bool false,.str [],.str [98],.slice none 0 (some 0),.slice none 0 (some 0),.int .i64 0],.agg [.int .i64 2,.bool false,.str [49,56,52,52,54,55,52,52,48,55,51,55,48,57,53,53,49,54,49,54],.str [],.slice none 0 (some 0),.slice none 0 (some 0),.int .i64 0]],.bool false⟩,
 ⟨127,[.agg [.int .i64 3,.bool false,.str [],.str [98],.slice none 0 (some 0),.slice none 0 (some 0),.int .i64 0],.agg [.int .i64 3,.bool false,.str [],.str [97],.slice none 0 (some 0),.slice none 0 (some 0),.int .i64 0]],.bool false⟩,
 ⟨127,[.agg [.int .i64 3,.bool false,.str [],.str [98],.slice none 0 (some 0),.slice none 0 (some 0),.int .i64 0],.agg [.int .i64 3,.bool false,.str [],.str [98],.slice none 0 (some 0),.slice none 0 (some 0),.int .i64 0]],.bool true⟩,
 ⟨127,[.agg [.int .i64 3,.bool false,.str [],.str [98],.slice none 0 (some 0),.slice none 0 (some 0),.int .i64 0],.agg [.int .i64 3,.bool false,.str [],.str [],.slice none 0 (some 0),.slice none 0 (some 0),.int .i64 0]],.bool false⟩]
def N6:List Row:=[
 ⟨127,[.agg [.int .i64 3,.bool false,.str [],.str [98],.slice none 0 (some 0),.slice none 0 (some 0),.int .i64 0],.agg [.int .i64 4,.bool false,.str [],.str [],.slice none 0 (some 0),.slice none 0 (some 0),.int .i64 0]],.bool false⟩,
 ⟨127,[.agg [.int .i64 3,.bool false,.str [],.str [],.slice none 0 (some 0),.slice none 0 (some 0),.int .i64 0],.agg [.int .i64 0,.bool false,.str [],.str [],.slice none 0 (some 0),.slice none 0 (some 0),.int .i64 0]],.bool false⟩,
 ⟨127,[.agg [.int .i64 3,.bool false,.str [],.str [],.slice none 0 (some 0),.slice none 0 (some 0),.int .i64 0],.agg [.int .i64 1,.bool true,.str [],.str [],.slice none 0 (some 0),.slice none 0 (some 0),.int .i64 0]],.bool false⟩,
 ⟨127,[.agg [.int .i64 3,.bool false,.str [],.str [],.slice none 0 (some 0),.slice none 0 (some 0),.int .i64 0],.agg [.int .i64 1,.bool false,.str [],.str [],.slice none 0 (some 0),.slice none 0 (some 0),.int .i64 0]],.bool false⟩,
 ⟨127,[.agg [.int .i64 3,.bool false,.str [],.str [],.slice none 0 (some 0),.slice none 0 (some 0),.int .i64 0],.agg [.int .i64 2,.bool false,.str [48],.str [],.slice none 0 (some 0),.slice none 0 (some 0),.int .i64 0]],.bool false⟩,
 ⟨127,[.agg [.int .i64 3,.bool false,.str [],.str [],.slice none 0 (some 0),.slice none 0 (some 0),.int .i64 0],.agg [.int .i64 2,.bool false,.str [49],.str [],.slice none 0 (some 0),.slice none 0 (some 0),.int .i64 0]],.bool false⟩,
 ⟨127,[.agg [.int .i64 3,.bool false,.str [],.str [],.slice none 0 (some 0),.slice none 0 (some 0),.int .i64 0],.agg [.int .i64 2,.bool false,.str [45,53],.str [],.slice none 0 (some 0),.slice none 0 (some 0),.int .i64 0]],.bool false⟩,
 ⟨127,[.agg [.int .i64 3,.bool false,.str [],.str [],.slice none 0 (some 0),.slice none 0 (some 0),.int .i64 0],.agg [.int .i64 2,.bool false,.str [49,56,52,52,54,55,52,52,48,55,51,55,48,57,53,53,49,54,49,54],.str [],.slice none 0 (some 0),.slice none 0 (some 0),.int .i64 0]],.bool false⟩,
 ⟨127,[.agg [.int .i64 3,.bool false,.str [],.str [],.slice none 0 (some 0),.slice none 0 (some 0),.int .i64 0],.agg [.int .i64 3,.bool false,.str [],.str [97],.slice none 0 (some 0),.slice none 0 (some 0),.int .i64 0]],.bool false⟩,
 ⟨127,[.agg [.int .i64 3,.bool false,.str [],.str [],.slice none 0 (some 0),.slice none 0 (some 0),.int .i64 0],.agg [.int .i64 3,.bool false,.str [],.str [98],.slice none 0 (some 0),.slice none 0 (some 0),.int .i64 0]],.bool false⟩,
 ⟨127,[.agg [.int .i64 3,.bool false,.str [],.str [],.slice none 0 (some 0),.slice none 0 (some 0),.int .i64 0],.agg [.int .i64 3,.bool false,.str [],.str [],.slice none 0 (some 0),.slice none 0 (some 0),.int .i64 0]],.bool true⟩,
 ⟨127,[.agg [.int .i64 3,.bool false,.str [],.str [],.slice none 0 (some 0),.slice none 0 (some 0),.int .i64 0],.agg [.int .i64 4,.bool false,.str [],.str [],.slice none 0 (some 0),.slice none 0 (some 0),.int .i64 0]],.bool false⟩,
 ⟨127,[.agg [.int .i64 4,.bool false,.str [],.str [],.slice none 0 (some 0),.slice none 0 (some 0),.int .i64 0],.agg [.int .i64 0,.bool false,.str [],.str [],.slice none 0 (some 0),.slice none 0 (some 0),.int .i64 0]],.bool false⟩,
 ⟨127,[.agg [.int .i64 4,.bool false,.str [],.str [],.slice none 0 (some 0),.slice none 0 (some 0),.int .i64 0],.agg [.int .i64 1,.bool true,.str [],.str [],.slice none 0 (some 0),.slice none 0 (some 0),.int .i64 0]],.bool false⟩]
def N7:List Row:=[
 ⟨127,[.agg [.int .i64 4,.bool false,.str [],.str [],.slice none 0 (some 0),.slice none 0 (some 0),.int .i64 0],.agg [.int .i64 1,.bool false,.str [],.str [],.slice none 0 (some 0),.slice none 0 (some 0),.int .i64 0]],.bool false⟩,
 ⟨127,[.agg [.int .i64 4,.bool false,.str [],.str [],.slice none 0 (some 0),.slice none 0 (some 0),.int .i64 0],.agg [.int .i64 2,.bool false,.str [48],.str [],.slice none 0 (some 0),.slice none 0 (some 0),.int .i64 0]],.bool false⟩,
 ⟨127,[.agg [.int .i64 4,.bool false,.str [],.str [],.slice none 0 (some 0),.slice none 0 (some 0),.int .i64 0],.agg [.int .i64 2,.bool false,.str [49],.str [],.slice none 0 (some 0),.slice none 0 (some 0),.int .i64 0]],.bool false⟩,
 ⟨127,[.agg [.int .i64 4,.bool false,.str [],.str [],.slice none 0 (some 0),.slice none 0 (some 0),.int .i64 0],.agg [.int .i64 2,.bool false,.str [45,53],.str [],.slice none 0 (some 0),.slice none 0 (some 0),.int .i64 0]],.bool false⟩,
 ⟨127,[.agg [.int .i64 4,.bool false,.str [],.str [],.slice none 0 (some 0),.slice none 0 (some 0),.int .i64 0],.agg [.int .i64 2,.bool false,.str [49,56,52,52,54,55,52,52,48,55,51,55,48,57,53,53,49,54,49,54],.str [],.slice none 0 (some 0),.slice none 0 (some 0),.int .i64 0]],.bool false⟩,
 ⟨127,[.agg [.int .i64 4,.bool false,.str [],.str [],.slice none 0 (some 0),.slice none 0 (some 0),.int .i64 0],.agg [.int .i64 3,.bool false,.str [],.str [97],.slice none 0 (some 0),.slice none 0 (some 0),.int .i64 0]],.bool false⟩,
 ⟨127,[.agg [.int .i64 4,.bool false,.str [],.str [],.slice none 0 (some 0),.slice none 0 (some 0),.int .i64 0],.agg [.int .i64 3,.bool false,.str [],.str [98],.slice none 0 (some 0),.slice none 0 (some 0),.int .i64 0]],.bool false⟩,
 ⟨127,[.agg [.int .i64 4,.bool false,.str [],.str [],.slice none 0 (some 0),.slice none 0 (some 0),.int .i64 0],.agg [.int .i64 3,.bool false,.str [],.str [],.slice none 0 (some 0),.slice none 0 (some 0),.int .i64 0]],.bool false⟩,
 ⟨127,[.agg [.int .i64 4,.bool false,.str [],.str [],.slice none 0 (some 0),.slice none 0 (some 0),.int .i64 0],.agg [.int .i64 4,.bool false,.str [],.str [],.slice none 0 (some 0),.slice none 0 (some 0),.int .i64 0]],.bool true⟩,
 ⟨109,[.agg [.int .i64 0,.bool false,.str [],.str [],.slice none 0 (some 0),.slice none 0 (some 0),.int .i64 0]],.bool true⟩,
 ⟨109,[.agg [.int .i64 1,.bool true,.str [],.str [],.slice none 0 (some 0),.slice none 0 (some 0),.int .i64 0]],.bool true⟩,
 ⟨109,[.agg [.int .i64 1,.bool false,.str [],.str [],.slice none 0 (some 0),.slice none 0 (some 0),.int .i64 0]],.bool true⟩,
 ⟨109,[.agg [.int .i64 2,.bool false,.str [48],.str [],.slice none 0 (some 0),.slice none 0 (some 0),.int .i64 0]],.bool true⟩,
 ⟨109,[.agg [.int .i64 2,.bool false,.str [49],.str [],.slice none 0 (some 0),.slice none 0 (some 0),.int .i64 0]],.bool true⟩]
def N8:List Row:=[
 ⟨109,[.agg [.int .i64 2,.bool false,.str [45,53],.str [],.slice none 0 (some 0),.slice none 0 (some 0),.int .i64 0]],.bool true⟩,
 ⟨109,[.agg [.int .i64 2,.bool false,.str [49,56,52,52,54,55,52,52,48,55,51,55,48,57,53,53,49,54,49,54],.str [],.slice none 0 (some 0),.slice none 0 (some 0),.int .i64 0]],.bool true⟩,
 ⟨109,[.agg [.int .i64 3,.bool false,.str [],.str [97],.slice none 0 (some 0),.slice none 0 (some 0),.int .i64 0]],.bool true⟩,
 ⟨109,[.agg [.int .i64 3,.bool false,.str [],.str [98],.slice none 0 (some 0),.slice none 0 (some 0),.int .i64 0]],.bool true⟩,
 ⟨109,[.agg [.int .i64 3,.bool false,.str [],.str [],.slice none 0 (some 0),.slice none 0 (some 0),.int .i64 0]],.bool true⟩,
 ⟨109,[.agg [.int .i64 4,.bool false,.str [],.str [],.slice none 0 (some 0),.slice none 0 (some 0),.int .i64 0]],.bool true⟩,
 ⟨7,[],.bool true⟩]
def Dc (r:Row):Bool:=Ej r.args && Ei r.res && N4 r.res ((Ci Xx 100000).call r.f r.args (S3 1 At))
theorem PI:Sk.all Dc=true:=by kernel_rfl
theorem PJ:Sl.all Dc=true:=by kernel_rfl
theorem PK:Sm.all Dc=true:=by kernel_rfl
theorem PL:Sn.all Dc=true:=by kernel_rfl
theorem PM:So.all Dc=true:=by kernel_rfl
theorem PN:Sp.all Dc=true:=by kernel_rfl
theorem PO:Sq.all Dc=true:=by kernel_rfl
theorem PP:Sr.all Dc=true:=by kernel_rfl
theorem PQ:Ss.all Dc=true:=by kernel_rfl
theorem PR:St.all Dc=true:=by kernel_rfl
theorem Mx:N6.all Dc=true:=by kernel_rfl
theorem My:N7.all Dc=true:=by kernel_rfl
theorem Mz:N8.all Dc=true:=by kernel_rfl
def CV:List Row:=Sk++Sl++Sm++Sn++So++Sp++Sq++Sr++Ss++St++N6++N7++N8
theorem Su:∀r∈CV,Ej r.args=true∧Ei r.res=true∧N4 r.res ((Ci Xx 100000).call r.f r.args (S3 1 At))=true:=by
 have h:CV.all Dc=true:=by
  unfold CV
  simp only[List.all_append,PI,PJ,PK,PL,PM,PN,PO,PP,PQ,PR,Mx,My,Mz,Bool.and_self]
 intro r hr
 have:=List.all_eq_true.1 h r hr
 unfold Dc at this
 simp only[Bool.and_eq_true]at this
 exact⟨this.1.1,this.1.2,this.2⟩
theorem Ka:Tryz.prog.follows .mixedOrders=true:=by kernel_rfl
theorem Ih:Ig Tryz.prog=true:=by kernel_rfl
def CN:L0:=KQ 1 At [44,30,45,127,109,7] CV
theorem Mo:DN Tryz.prog CN:=O0 Ka (Fs Ih) rfl Nv (by kernel_rfl) Su
def Dq:L0:=fun f xs s=>match CN f xs s with
 | some p=>some p
 | none=>Oz f xs s
theorem Nw:DN Tryz.prog Dq:=by
 intro ρ s w f xs v s1 as' hc hi hf ha
 unfold Dq at hc
 cases h:CN f xs s with
 | some p=>rw[h]at hc;injection hc with hc;subst hc;exact Mo ρ s w f xs v s1 as' h hi hf ha
 | none=>rw[h]at hc;exact Nv ρ s w f xs v s1 as' hc hi hf ha
def V9:Bt:=⟨Tryz.prog,Dq⟩
end
end Go.Proofs.YtickdehehcmfbaaGreatDoor.Am
set_option linter.unusedVariables false
set_option linter.unusedSimpArgs false
namespace Go.Proofs.YtickdehehcmfbaaGreatDoor.Am
open Go
noncomputable section
def X6:AV→Option Nat
 | .slice (some (i,_)) _ _=>some i
 | _=>none
section
variable{α:Type}
theorem AG.setF_succ(v:Option α)(f:Nat)(t:AG α)(k:Nat):AG.setF v (f+1) t (k+1)=if k % 2=0 then .node t.val (AG.setF v f t.left (k / 2)) t.right else .node t.val t.left (AG.setF v f t.right (k / 2)):=by
 by_cases h:k % 2=0
 ·have hb:Nat.beq (k % 2) 0=true:=by rw[h];rfl
  simp only[AG.setF,hb,cond_true,AG.nodeL_eq,AG.nodeR_eq]
  rw[if_pos h]
 ·have hb:Nat.beq (k % 2) 0=false:=AG.beq_no h
  simp only[AG.setF,hb,cond_false,AG.nodeL_eq,AG.nodeR_eq]
  rw[if_neg h]
theorem AG.setF_fuel   (v : Option α) : ∀ (f g : Nat) (t : AG   α) (k : Nat), k < f → k < g → AG.setF   v f t k = AG.setF   v g t k := by
  intro f
  induction f with
  | zero=>intro g t k h;omega
  | succ f ih =>
    intro g t k h1 h2
    cases g with
    | zero=>omega
    | succ g =>
      cases k with
      | zero=>rfl
      | succ k =>
        rw[AG.setF_succ,AG.setF_succ,ih g t.left (k / 2) (by omega) (by omega),ih g t.right (k / 2) (by omega) (by omega)]
theorem AG.setF_same(v w:Option α):∀ (f:Nat)(t:AG α)(k:Nat),k<f→AG.setF w f (AG.setF v f t k) k=AG.setF w f t k:=by
 intro f
 induction f with
 | zero=>intro t k h;omega
 | succ f ih =>
  intro t k h
  cases k with
  | zero=>rfl
  | succ k =>
   rw[AG.setF_succ,AG.setF_succ,AG.setF_succ]
   by_cases hk:k % 2=0
   ·simp only[hk,if_true,AG.val,AG.left,AG.right];rw[ih _ _ (by omega)]
   ·simp only[hk,if_false,AG.val,AG.left,AG.right];rw[ih _ _ (by omega)]
theorem AG.setF_comm   (v w : Option α) : ∀ (f : Nat) (t : AG   α) (k j : Nat), k < f → j < f → k ≠ j → AG.setF   w f (AG.setF   v f t k) j = AG.setF   v f (AG.setF   w f t j) k := by
  intro f
  induction f with
  | zero=>intro t k j h;omega
  | succ f ih =>
    intro t k j h1 h2 hne
    cases k with
    | zero =>
      cases j with
      | zero=>omega
      | succ j =>
        rw[AG.setF_succ,AG.setF_succ]
        by_cases hj:j % 2=0
        · simp only[hj,if_true,AG.setF,AG.val,AG.left,AG.right]
        · simp only[hj,if_false,AG.setF,AG.val,AG.left,AG.right]
    | succ k =>
      cases j with
      | zero =>
        rw[AG.setF_succ,AG.setF_succ]
        by_cases hk:k % 2=0
        · simp only[hk,if_true,AG.setF,AG.val,AG.left,AG.right]
        · simp only[hk,if_false,AG.setF,AG.val,AG.left,AG.right]
      | succ j =>
        simp only[AG.setF_succ]
        by_cases hk:k % 2=0<;>by_cases hj:j % 2=0
        · simp only[hk,hj,if_true,AG.val,AG.left,AG.right];rw[ih _ _ _ (by omega) (by omega) (by omega)]
        · simp only[hk,hj,if_true,if_false,AG.val,AG.left,AG.right]
        · simp only[hk,hj,if_true,if_false,AG.val,AG.left,AG.right]
        · simp only[hk,hj,if_false,AG.val,AG.left,AG.right];rw[ih _ _ _ (by omega) (by omega) (by omega)]
theorem AG.set_same(t:AG α)(k:Nat)(v w:α):(t.set k v).set k w=t.set k w:=AG.setF_same _ _ _ _ _ (by omega)
theorem AG.set_comm(t:AG α){k j:Nat}(h:k≠j)(v w:α):(t.set k v).set j w=(t.set j w).set k v:=by
 unfold AG.set AG.put
 rw[AG.setF_fuel _ (k+1) (k+j+1) t k (by omega) (by omega),AG.setF_fuel _ (j+1) (k+j+1) _ j (by omega) (by omega),AG.setF_fuel _ (j+1) (k+j+1) t j (by omega) (by omega),AG.setF_fuel _ (k+1) (k+j+1) _ k (by omega) (by omega)]
 exact AG.setF_comm _ _ _ _ _ _ (by omega) (by omega) h
theorem AG.fill_append(l m:List α):∀ (t:AG α)(k:Nat),t.fill k (l++m)=(t.fill k l).fill (k+l.length) m:=by
 induction l with
 | nil=>intro t k;rfl
 | cons a l ih=>intro t k;simp only[ZE,AG.fill,ih,ZC];rw[show k+1+l.length=k+(l.length+1)from by omega]
theorem AG.fill_set_below(l:List α):∀ (t:AG α)(k j:Nat)(v:α),j<k→(t.fill k l).set j v=(t.set j v).fill k l:=by
 induction l with
 | nil=>intro t k j v _;rfl
 | cons a l ih =>
  intro t k j v h
  simp only[AG.fill]
  rw[ih _ _ _ _ (by omega),AG.set_comm t (by omega)]
theorem AG.fill_set(l:List α):∀ (t:AG α)(k i:Nat)(v:α),i<l.length→(t.fill k l).set (k+i) v=t.fill k (l.set i v):=by
  induction l with
  | nil=>intro t k i v h;simp at h
  | cons a l ih =>
    intro t k i v h
    cases i with
    | zero =>
      simp only[AG.fill,Nat.add_zero,ZH]
      rw[AG.fill_set_below _ _ _ _ _ (by omega),AG.set_same]
    | succ i =>
      simp only[AG.fill,ZI]
      rw[show k+(i+1)=k+1+i from by omega]
      exact ih _ _ _ _ (by simpa using h)
end
def Ny(l:List AV):AG AV:=AG.fill .leaf 0 l
theorem KY(l:List AV)(k:Nat):(Ny l).get k=l[k]? := by
 unfold Ny
 rw[AG.get_fill]
 by_cases h:k<l.length
 ·rw[if_pos ⟨ZW _,by omega⟩];rfl
 ·rw[if_neg (by omega),ZT (by omega)];rfl
def EQ(cs:List AV)(off:Nat)(vs:List AV):List AV:=match vs with
 | []=>cs
 | v::vs=>EQ (cs.set off v) (off+1) vs
theorem Fe:∀ (vs cs:List AV)(off:Nat),(EQ cs off vs).length=cs.length
 | [],_,_=>rfl
 | v::vs,cs,off=>by unfold EQ;rw[Fe];simp
theorem La:∀ (vs cs:List AV)(off:Nat),off+vs.length≤cs.length→(Ny cs).fill off vs=Ny (EQ cs off vs)
 | [],_,_,_=>rfl
 | v::vs,cs,off,h=>by
  simp only[AG.fill,EQ]
  have e:(Ny cs).set off v=Ny (cs.set off v):=by
   unfold Ny
   have:=AG.fill_set cs .leaf 0 off v (by simp at h;omega)
   rwa[ZB]at this
  rw[e]
  exact La vs _ _ (by simp at h ⊢;omega)
def R(e sz:Nat)(sp:Bool)(cs:List AV):AX:=.row { elem:=e,sz,n:=cs.length,c:=Ny cs,spare:=sp,mode:=.own,par:=none,bytes:=true }
@[irreducible] def nid (b k:Nat):Nat:=b+k
theorem AH(b k:Nat):nid b k=b+k:=by unfold nid;rfl
theorem If(b:Nat):nid b 0=b:=by rw[AH];rfl
def ext(s:AE)(os:List AX):AE:={ next:=nid s.next os.length,heap:=s.heap.fill s.next os }
theorem AZ(s:AE):ext s []=s:=by
 unfold ext
 rw[ZF,If];rfl
theorem Wm(s:AE)(os:List AX):(ext s os).next=nid s.next os.length:=rfl
theorem Wp(s:AE)(i:Nat)(o:AX):(setObj s i o).next=s.next:=rfl
theorem Wl(s:AE)(os:List AX)(o:AX):newObj (ext s os) o=ext s (os++[o]):=by
 unfold newObj ext
 simp only[AH,Ze,ZC,ZF,AG.fill_append,AG.fill]
 congr 1
theorem Wn{s:AE}{os:List AX}{b k:Nat}(o:AX)(hb:s.next=b)(hk:k<os.length):setObj (ext s os) (nid b k) o=ext s (os.set k o):=by
 subst hb
 unfold setObj ext
 simp only[AH,List.length_set]
 rw[AG.fill_set _ _ _ _ _ hk]
theorem Wg{s:AE}{os:List AX}{b k:Nat}(hb:s.next=b)(hk:k<os.length):(ext s os).heap.get (nid b k)=os[k]? := by
 subst hb
 show(s.heap.fill s.next os).get _=_
 rw[AG.get_fill,AH,if_pos (by omega)]
 congr 1
 omega
theorem Wh{s:AE}{os:List AX}{i:Nat}(hi:i<s.next):(ext s os).heap.get i=s.heap.get i:=by
 show(s.heap.fill s.next os).get _=_
 rw[AG.get_fill,if_neg (by omega)]
theorem Wq(s:AE)(i:Nat)(o:AX):(setObj s i o).heap.get i=some o:=by
 show(s.heap.set i o).get i=_
 rw[AG.get_set,if_pos rfl]
theorem Wr{s:AE}{i j:Nat}(o:AX)(h:j≠i):(setObj s i o).heap.get j=s.heap.get j:=by
 show(s.heap.set i o).get j=_
 rw[AG.get_set,if_neg h]
def Ty:Option AX→Option B0
 | some (.row r)=>some r
 | _=>none
def Cz(o:Option AX)(off:Nat):Option AV:=(Ty o).bind fun r=>AF (Nat.blt off r.n) (r.c.get off)
def Bs(o:Option AX)(off n:Nat):Option (List AV):=(Ty o).bind fun r=>AF (Nat.ble (off+n) r.n) (r.c.take off n)
def WT(kt:TypeId):Option AX→Option (List (AV×AV))
 | some (.map kt' es)=>AF (Nat.beq kt' kt) (some es)
 | _=>none
theorem Hl(s:AE)(i:Nat):rowAt s i=Ty (s.heap.get i):=rfl
theorem Nt(s:AE)(i off:Nat):B9 s i off=Cz (s.heap.get i) off:=rfl
theorem DD(s:AE)(i off n:Nat):A9 s i off n=Bs (s.heap.get i) off n:=rfl
theorem FA(s:AE)(kt i:Nat):FZ s kt i=WT kt (s.heap.get i):=rfl
theorem Wi(e sz:Nat)(sp:Bool)(cs:List AV)(off:Nat):Cz (some (R e sz sp cs)) off=cs[off]? := by
 show AF (Nat.blt off cs.length) ((Ny cs).get off)=_
 rw[KY]
 by_cases h:off<cs.length
 ·have:Nat.blt off cs.length=true:=by rw[ZX];exact h
  rw[this];rfl
 ·have:Nat.blt off cs.length=false:=by
   cases hb:Nat.blt off cs.length with
   | false=>rfl
   | true=>rw[ZX]at hb;exact absurd hb h
  rw[this,ZT (by omega)];rfl
theorem Lv:∀ (n:Nat)(cs:List AV)(off:Nat),off+n≤cs.length→(Ny cs).take off n=some ((cs.drop off).take n)
 | 0,cs,off,_=>by simp[AG.take]
 | n+1,cs,off,h=>by
  have hg:cs[off]? = some cs[off]:=ZP (by omega)
  simp only[AG.take,KY,hg,Lv n cs (off+1) (by omega)]
  rw[show cs.drop off=cs[off]::cs.drop (off+1)from(List.drop_eq_getElem_cons (by omega))]
  rfl
theorem Wj{e sz:Nat}{sp:Bool}{cs:List AV}{off n:Nat}(h:off+n≤cs.length):Bs (some (R e sz sp cs)) off n=some ((cs.drop off).take n):=by
 show AF (Nat.ble (off+n) cs.length) ((Ny cs).take off n)=_
 have:Nat.ble (off+n) cs.length=true:=by rw[ZN];exact h
 rw[this,Lv n cs off h];rfl
theorem D6(kt:TypeId)(es:List (AV×AV)):WT kt (some (.map kt es))=some es:=by simp[WT,AF]
theorem Wd(s:AE)(i off:Nat):Bk s i off []=some s:=rfl
end
end Go.Proofs.YtickdehehcmfbaaGreatDoor.Am
set_option linter.unusedVariables false
set_option linter.unusedSimpArgs false
namespace Go.Proofs.YtickdehehcmfbaaGreatDoor.Am
open Go Go.Proofs
noncomputable section
inductive Tm where
 | var (id:Int)
 | bnd (i:Int)
 | con (n:Nat)
 | sel (d k:Tm)
 | upd (d k a:Tm)
 deriving DecidableEq
namespace Tm
def kids:Tm→List Tm
 | sel d k=>[d,k]
 | upd d k a=>[d,k,a]
 | _=>[]
def kind:Tm→Int
 | var _=>0
 | bnd _=>1
 | con _=>2
 | sel ..=>3
 | upd ..=>4
def id:Tm→Int
 | var i=>i
 | bnd i=>i
 | _=>0
def ktext:Tm→List Nat
 | con n=>(Eg.getD n ([],[])).1
 | _=>[]
def nullC:List AV:=[.int .i64 0,.bool false,.str [],.str [],.slice none 0 (some 0),.slice none 0 (some 0),.int .i64 0]
def cells:Tm→List AV
 | con n=>(Eg.getD n ([],nullC)).2
 | _=>nullC
def ok:Tm→Prop
 | var i=>i64 i
 | bnd i=>0≤i∧i64 i
 | con n=>n<13
 | _=>True
def sz:Tm→Nat
 | sel d k=>min (min (1+d.sz) 4097+k.sz) 4097
 | upd d k a=>min (min (min (1+d.sz) 4097+k.sz) 4097+a.sz) 4097
 | _=>1
def has(x:Int):Tm→Bool
 | var i=>decide (i=x)
 | sel d k=>d.has x || k.has x
 | upd d k a=>d.has x || k.has x || a.has x
 | _=>false
theorem sz_pos:∀t:Tm,1≤t.sz∧t.sz≤4097
 | var _ | bnd _ | con _=>by simp[sz]
 | sel d k=>by have:=sz_pos d;have:=sz_pos k;simp only[sz];omega
 | upd d k a=>by have:=sz_pos d;have:=sz_pos k;have:=sz_pos a;simp only[sz];omega
end Tm
structure I5(S:List Tm):Prop where
 nd:S.Nodup
 cl:∀ (i:Nat) (t:Tm),S[i]? = some t→∀k∈t.kids,∃j:Nat,j<i∧S[j]? = some k
 ok:∀t∈S,t.ok
def ix(S:List Tm)(t:Tm):Nat:=S.idxOf t
theorem Cv{S:List Tm}{t:Tm}(h:t∈S):S[ix S t]? = some t:=by
 have hl:=Z5 h
 rw[ix,ZP hl,List.getElem_idxOf hl]
theorem Ep{S:List Tm}{t:Tm}(h:t∈S):ix S t<S.length:=Z5 h
theorem Gm{S:List Tm}{t u:Tm}(h:t∈S)(k:u∈S)(e:ix S t=ix S u):t=u:=by
 have h1:=Cv h
 rw[e,Cv k]at h1
 injection h1 with h1
 exact h1.symm
theorem Vd{S:List Tm}(hn:S.Nodup){i:Nat}{t:Tm}(h:S[i]? = some t):ix S t=i:=by
 have hm:=ZZ h
 have h1:=Cv hm
 have hi:i<S.length:=by
  rcases ZO i S.length with h' | h'
  ·exact h'
  ·rw[ZT h']at h;cases h
 have hl:=Ep hm
 rw[ZP hi]at h
 rw[ZP hl]at h1
 injection h with h
 injection h1 with h1
 exact(List.getElem_inj hn).1 (h1.trans h.symm)
theorem DG{S:List Tm}{t:Tm}(u:List Tm)(h:t∈S):ix (S++u) t=ix S t:=by
 unfold ix
 rw[List.idxOf_append,if_pos h]
theorem R3{S:List Tm}{u:Tm}(h:u ∉ S):ix (S++[u]) u=S.length:=by
 unfold ix
 rw[List.idxOf_append,if_neg h]
 simp
theorem I5.kid{S:List Tm}(h:I5 S){t k:Tm}(ht:t∈S)(hk:k∈t.kids):k∈S∧ix S k<ix S t:=by
 obtain⟨j,h1,h2⟩:=h.cl _ _ (Cv ht) k hk
 exact⟨ZZ h2,by rw[Vd h.nd h2];exact h1⟩
theorem I5.push  {S : List Tm} (h : I5  S) {u : Tm} (hu : u ∉ S) (hk : ∀ k ∈ u.kids, k ∈ S) (ho : u.ok) : I5  (S ++ [u]) where
  nd:=by
    rw[List.nodup_append]
    refine⟨h.nd,by simp,fun a ha b hb e=>?_⟩
    simp at hb
    subst hb;subst e
    exact hu ha
  cl := by
    intro i t hi k hkt
    rcases ZO i S.length with hl | hl
    · rw[Zb hl]at hi
      obtain⟨j,h1,h2⟩:=h.cl i t hi k hkt
      exact⟨j,h1,by rw[Zb (by omega)];exact h2⟩
    · rw[Zc hl]at hi
      have:i - S.length=0:=by
        rcases Zp (i - S.length)with e | e
        · exact e
        · rw[ZT (by simp;omega)]at hi;cases hi
      rw[this]at hi
      simp at hi
      subst hi
      have hm:=hk k hkt
      exact⟨ix S k,by have:=Ep hm;omega,by rw[Zb (Ep hm)];exact Cv hm⟩
  ok:=fun t ht=>by
    rcases List.mem_append.1 ht with h' | h'
    · exact h.ok t h'
    · simp at h';subst h';exact ho
def part(S:List Tm)(t:Tm)(k:Nat):Int:=match t.kids[k]? with
 | some u=>(ix S u:Int)
 | none=>0
def BB(S:List Tm)(t:Tm):List AV:=[iv t.kind,iv t.id,iv (part S t 0),iv (part S t 1),iv (part S t 2),.str t.ktext]
theorem Ey{S:List Tm}{t:Tm}(u:List Tm)(h:∀k∈t.kids,k∈S)(k:Nat):part (S++u) t k=part S t k:=by
 unfold part
 cases e:t.kids[k]? with
 | none=>rfl
 | some x=>show(ix (S++u) x:Int)=ix S x;rw[DG u (h x (ZZ e))]
theorem Cl{S:List Tm}{t:Tm}(u:List Tm)(h:∀k∈t.kids,k∈S):BB (S++u) t=BB S t:=by
 unfold BB
 rw[Ey u h,Ey u h,Ey u h]
theorem Q0:∀a,a<13→∀b,b<13→(Eg.getD a ([],[])).1=(Eg.getD b ([],[])).1→a=b:=by decide
theorem R5{S:List Tm}{t u:Tm}(ht:∀k∈t.kids,k∈S)(hu:∀k∈u.kids,k∈S)(ot:t.ok)(ou:u.ok)(h:BB S t=BB S u):t=u:=by
  unfold BB at h
  simp only[List.cons.injEq,and_true,AV.int.injEq,true_and,AV.str.injEq]at h
  obtain⟨h1,h2,h3,h4,h5,h6⟩:=h
  cases t<;>cases u<;>first | (simp[Tm.kind]at h1;done) | skip
  · have e:_=_:=h2
    simp only[Tm.id]at e
    rw[e]
  · have e:_=_:=h2
    simp only[Tm.id]at e
    rw[e]
  · rename_i a b
    rw[Q0 a ot b ou h6]
  · rename_i a b c d
    have e1:(ix S a:Int)=ix S c:=h3
    have e2:(ix S b:Int)=ix S d:=h4
    rw[Gm (ht a (by simp[Tm.kids])) (hu c (by simp[Tm.kids])) (by omega),Gm (ht b (by simp[Tm.kids])) (hu d (by simp[Tm.kids])) (by omega)]
  · rename_i a b x c d y
    have e1:(ix S a:Int)=ix S c:=h3
    have e2:(ix S b:Int)=ix S d:=h4
    have e3:(ix S x:Int)=ix S y:=h5
    rw[Gm (ht a (by simp[Tm.kids])) (hu c (by simp[Tm.kids])) (by omega),Gm (ht b (by simp[Tm.kids])) (hu d (by simp[Tm.kids])) (by omega),Gm (ht x (by simp[Tm.kids])) (hu y (by simp[Tm.kids])) (by omega)]
theorem Om(S:List Tm)(t u:Tm):∃b,Cm (.agg (BB S t)) (.agg (BB S u))=some b∧(b=true↔BB S t=BB S u):=by
 have si:∀a b:Int,Nd a b=decide (a=b):=fun a b=>by rw[DS];rfl
 have ss:∀a b:List Nat,BU a b=decide (a=b):=fun a b=>by
  rw[Bool.eq_iff_iff,decide_eq_true_eq];exact FH
 refine⟨_,by simp only[BB,Cm,Cm.keysEq,Bh,AF,cond_true,Option.bind_some];rfl,?_⟩
 simp only[BB,si,ss,Bool.and_eq_true,decide_eq_true_eq,List.cons.injEq,and_true,AV.int.injEq,true_and,AV.str.injEq,Bool.and_true]
def CJ(S:List Tm):List (AV×AV):=S.map fun t=>(.agg (BB S t),iv (ix S t))
theorem IP{S:List Tm}{u:Tm}(hs:I5 S)(hu:u ∉ S)(hk:∀k∈u.kids,k∈S):CJ (S++[u])=CJ S++[(.agg (BB S u),iv (S.length:Int))]:=by
  unfold CJ
  rw[Zz]
  congr 1
  · refine Z2                  fun t ht => ?_
    rw[Cl [u] fun k hkk=>(hs.kid ht hkk).1,DG [u] ht]
  · simp only[ZV,List.map_nil,R3 hu,Cl [u] hk]
theorem HC          {S : List Tm} (hs : I5  S) {u : Tm} (hk : ∀ k ∈ u.kids, k ∈ S) (ho : u.ok) : ∀ (l : List Tm) (i : Nat), (∀ t ∈ l, t ∈ S) →
    CI (.agg (BB S u)) (l.map fun t=>(.agg (BB S t),iv (ix S t))) i=some (if u∈l then some (i+l.idxOf u,iv (ix S u))else none)
  | [],i,_=>by simp[CI]
  | t::l,i,h=>by
    obtain⟨b,hb,hbi⟩:=Om S u t
    simp only[ZV,CI,hb,Option.bind_some]
    by_cases e:u=t
    · subst e
      rw[hbi.2 rfl]
      simp
    · have hne : BB   S u ≠ BB   S t := fun h' => e (R5       hk (fun k hkk => (hs.kid (h t ZU)                 hkk).1) ho (hs.ok t (h t ZU))                 h')
      have hbf:b=false:=by
        cases b with
        | false=>rfl
        | true=>exact absurd (hbi.1 rfl) hne
      rw[hbf]
      simp only
      rw[HC hs hk ho l (i+1) fun x hx=>h x (ZQ _ hx)]
      by_cases hm:u∈l
      · rw[if_pos hm,if_pos (ZQ _ hm)]
        have:(t::l).idxOf u=l.idxOf u+1:=by rw[List.idxOf_cons,beq_false_of_ne (Ne.symm e)];rfl
        rw[this,show i+1+l.idxOf u=i+(l.idxOf u+1)from by omega]
      · rw[if_neg hm,if_neg (by simp[e,hm])]
theorem IN{S:List Tm}(hs:I5 S){u:Tm}(hk:∀k∈u.kids,k∈S)(ho:u.ok):CI (.agg (BB S u)) (CJ S) 0=some (if u∈S then some (ix S u,iv (ix S u))else none):=by
 have:=HC hs hk ho S 0 fun _ h=>h
 rw[ZB]at this
 exact this
def A5(ks:List Int):List (AV×AV):=ks.map fun k=>(iv k,iv 1)
def Fh(ks:List Int)(k:Int):List Int:=if k∈ks then ks else ks++[k]
theorem IL         (k : Int) : ∀ (ks : List Int) (i : Nat), CI    (iv k) (A5     ks) i = some (if k ∈ ks then some (i + ks.idxOf k, iv 1) else none)
  | [],i=>by simp[CI,A5]
  | x::ks,i=>by
    have h1:Cm (iv k) (iv x)=some (decide (k=x)):=by simp[Cm,Bh,AF,DS];rfl
    show(Cm (iv k) (iv x)).bind _=_
    rw[h1,Option.bind_some]
    by_cases e:k=x
    · subst e;simp
    · simp only [e, decide_false]
      show CI (iv k) (A5 ks) (i+1)=_
      rw[IL k ks (i+1)]
      by_cases hm:k∈ks
      · rw[if_pos hm,if_pos (ZQ _ hm)]
        have:(x::ks).idxOf k=ks.idxOf k+1:=by rw[List.idxOf_cons,beq_false_of_ne (Ne.symm e)];rfl
        rw[this,show i+1+ks.idxOf k=i+(ks.idxOf k+1)from by omega]
      · rw[if_neg hm,if_neg (by simp[e,hm])]
theorem HS:∀ (ks:List Int)(i:Nat),setNth (A5 ks) i (iv 1)=A5 ks
 | [],_=>rfl
 | k::ks,0=>rfl
 | k::ks,i+1=>by show(iv k,iv 1)::setNth (A5 ks) i (iv 1)=_;rw[HS ks i];rfl
theorem Jf(ks:List Int)(k:Int):JD (iv k) (iv 1) (A5 ks)=some (A5 (Fh ks k)):=by
 unfold JD Fh
 rw[IL,Option.bind_some]
 by_cases h:k∈ks
 ·rw[if_pos h,if_pos h]
  simp only[HS]
 ·rw[if_neg h,if_neg h]
  simp[A5]
theorem HP:∀ (ms ks:List Int),Gu (A5 ms) (A5 ks)=some (A5 (ms.foldl Fh ks))
 | [],_=>rfl
 | m::ms,ks=>by
  show(JD (iv m) (iv 1) (A5 ks)).bind _=_
  rw[Jf,Option.bind_some]
  exact HP ms _
theorem L6{ks:List Int}(h:ks.Nodup)(k:Int):(Fh ks k).Nodup:=by
  unfold Fh
  split
  · exact h
  · rename_i hk
    rw[List.nodup_append]
    exact⟨h,by simp,fun a ha b hb e=>by simp at hb;subst hb;subst e;exact hk ha⟩
theorem SP{ks:List Int}{k x:Int}:x∈Fh ks k↔x∈ks∨x=k:=by
 unfold Fh
 split
 ·rename_i hk
  exact⟨.inl,fun h=>h.elim (fun h=>h) (fun h=>by rw[h];exact hk)⟩
 ·simp
theorem HD:∀ (ms:List Int){ks:List Int},ks.Nodup→(ms.foldl Fh ks).Nodup
 | [],_,h=>h
 | m::ms,_,h=>HD ms (L6 h m)
theorem JU{x:Int}:∀ (ms:List Int){ks:List Int},x∈ms.foldl Fh ks↔x∈ks∨x∈ms
  | [],_=>by simp
  | m::ms,ks=>by
    rw[Zu,JU ms,SP]
    simp only[Zd]
    constructor
    · rintro ((h | h) | h)
      · exact .inl h
      · exact .inr (.inl h)
      · exact .inr (.inr h)
    · rintro (h | h | h)
      · exact .inl (.inl h)
      · exact .inl (.inr h)
      · exact .inr h
theorem GM:∀ (ms:List Int)(ks:List Int),(ms.foldl Fh ks).length≤ks.length+ms.length
 | [],ks=>by simp
 | m::ms,ks=>by
  rw[Zu]
  have:=GM ms (Fh ks m)
  have h:(Fh ks m).length≤ks.length+1:=by unfold Fh;split<;>simp
  simp;omega
end
end Go.Proofs.YtickdehehcmfbaaGreatDoor.Am
set_option linter.unusedVariables false
set_option linter.unusedSimpArgs false
namespace Go.Proofs.YtickdehehcmfbaaGreatDoor.Am
open Go
noncomputable section
section
variable{P:Program}{s:AE}{os:List AX}{b k i o off n t e sz:Nat}{sp:Bool}{cs vs:List AV}
theorem Xb(cs:List AV):(AV.agg cs).cells=cs:=rfl
theorem Xc(q:IntKind)(n:Int):(AV.int q n).cells=[.int q n]:=rfl
theorem Xd(l:List Nat):(AV.str l).cells=[.str l]:=rfl
theorem Xe(x:Bool):(AV.bool x).cells=[.bool x]:=rfl
theorem Xf(m:Option Nat):(AV.map m).cells=[.map m]:=rfl
theorem Xg(a:Option (Nat×Nat)):(AV.ptr a).cells=[.ptr a]:=rfl
theorem Xh(a:Option (Nat×Nat))(n:Nat)(c:Option Nat):(AV.slice a n c).cells=[.slice a n c]:=rfl
theorem Xi(f:FuncId)(a c:List AV):(AV.func f a c).cells=[.func f a c]:=rfl
theorem Xj:Af []=true:=rfl
theorem Xk(v:AV)(l:List AV):Af (v::l)=(v.isCell && Af l):=rfl
theorem Xl(q:IntKind)(n:Int):(AV.int q n).isCell=true:=rfl
theorem Xm(l:List Nat):(AV.str l).isCell=true:=rfl
theorem Xn(x:Bool):(AV.bool x).isCell=true:=rfl
theorem Xo(m:Option Nat):(AV.map m).isCell=true:=rfl
theorem Xp(a:Option (Nat×Nat)):(AV.ptr a).isCell=true:=rfl
theorem Xq(a:Option (Nat×Nat))(n:Nat)(c:Option Nat):(AV.slice a n c).isCell=true:=rfl
theorem Xr(f:FuncId)(a c:List AV):(AV.func f a c).isCell=true:=rfl
theorem Xa{α:Type}(x:Option α):AF true x=x:=rfl
theorem TP(a b:Nat):Nat.beq a b=decide (a=b):=by
 rw[Bool.eq_iff_iff,decide_eq_true_eq,Zm]
theorem TQ(a b:Nat):Nat.ble a b=decide (a≤b):=by
 rw[Bool.eq_iff_iff,decide_eq_true_eq,ZN]
theorem Rz(h:Dy P t=some false):AO P s t (.ptr (some (i,o)))=Cz (s.heap.get i) o:=by
 unfold AO
 rw[h];rfl
theorem Wa(h:Dy P t=some true):AO P s t (.ptr (some (i,o)))=(An P t).bind fun n=>(Bs (s.heap.get i) o n).bind fun l=>some (.agg l):=by
 unfold AO
 rw[h];rfl
theorem Wb(v:AV):BH P s t (.ptr (some (i,o))) v=(An P t).bind fun n=>AF (decide (v.cells.length=n)) (Bk s i o v.cells):=by
 unfold BH
 simp only[TP]
def YQ:Option AX→Bool
 | some (.row r)=>Cx r.mode && r.par.isNone
 | _=>false
def X3(off:Nat)(vs:List AV):Option AX→Option AX
 | some (.row r)=>AF (Nat.ble (off+vs.length) r.n && Af vs) (some (.row { r with c:=r.c.fill off vs,par:=none }))
 | _=>none
theorem We(e sz:Nat)(sp:Bool)(cs:List AV):YQ (some (R e sz sp cs))=true:=rfl
theorem Wf(e sz:Nat)(sp:Bool)(cs vs:List AV)(off:Nat):X3 off vs (some (R e sz sp cs))=AF (decide (off+vs.length≤cs.length) && Af vs) (some (R e sz sp (EQ cs off vs))):=by
 show AF (Nat.ble (off+vs.length) cs.length && Af vs) (some (AX.row { elem:=e,sz,n:=cs.length,c:=(Ny cs).fill off vs,spare:=sp,mode:=.own,par:=none,bytes:=true }))=_
 rw[TQ]
 by_cases h:off+vs.length≤cs.length
 ·rw[La _ _ _ h]
  simp only[h,decide_true]
  rw[R,Fe]
 ·simp only[h,decide_false,Bool.false_and]
  rfl
theorem Wc{v:AV}(h:YQ (s.heap.get i)=true):Bk s i off (v::vs)=(X3 off (v::vs) (s.heap.get i)).bind fun o'=>some (setObj s i o'):=by
 unfold Bk
 rw[Hl]
 cases hg:s.heap.get i with
 | none=>rw[hg]at h;cases h
 | some ob =>
  rw[hg]at h
  cases ob<;>first | (cases h;done) | skip
  rename_i r
  simp only[YQ,Bool.and_eq_true]at h
  have hp:r.par=none:=by cases hh:r.par with | none=>rfl | some _=>rw[hh]at h;simp at h
  show AF (Cx r.mode && Nat.ble (off+(v::vs).length) r.n && Af (v::vs)) _=(AF (Nat.ble (off+(v::vs).length) r.n && Af (v::vs)) _).bind _
  rw[h.1,Bool.true_and,Ax,hp]
  cases Nat.ble (off+(v::vs).length) r.n && Af (v::vs)<;>rfl
theorem Ws(cs:List AV)(off:Nat):EQ cs off []=cs:=rfl
theorem Wt(cs:List AV)(off:Nat)(v:AV)(vs:List AV):EQ cs off (v::vs)=EQ (cs.set off v) (off+1) vs:=rfl
theorem Wu(e:TypeId)(v:AV):FN e v=some (R e 0 false v.cells,.ptr):=rfl
theorem Wv(e:TypeId):B2 P e=(Bw P e).bind fun z=>some (R e 0 false z.cells,.ptr):=rfl
theorem Ww(i:Nat):Made.ptr.val i=.ptr (some (i,0)):=rfl
theorem Wx(i:Nat):Made.map.val i=.map (some i):=rfl
theorem Wy(i n:Nat):(Made.slice n).val i=.slice (some (i,0)) n (some n):=rfl
theorem Wz(a:Nat×Nat):Az (.ptr (some a))=some (.ptr (some a)):=rfl
end
def F3(e:TypeId)(sz:Nat)(s:AE)(v:AV)(n:Nat)(cs:List AV)(O:List Nat):Prop:=
 (v=.slice none 0 (some 0)∧n=0∧cs=[]∧O=[])∨∃i p,v=.slice (some (i,0)) n none∧FL e 0 s.next s v n sz cs i p∧O=i::p.toList
section
variable{e sz n:Nat}{s s':AE}{v:AV}{cs:List AV}{O:List Nat}
theorem F3.nil(e sz:Nat)(s:AE):F3 e sz s (.slice none 0 (some 0)) 0 [] []:=.inl ⟨rfl,rfl,rfl,rfl⟩
theorem F3.len(h:F3 e sz s v n cs O):cs.length=n * sz:=by
 rcases h with⟨_,rfl,rfl,_⟩ | ⟨i,p,_,h,_⟩
 ·simp
 ·exact h.len
theorem F3.lt  (h : F3  e sz s v n cs O) : ∀ j ∈ O, j < s.next := by
  rcases h with⟨_,_,_,rfl⟩ | ⟨i,p,hv,h,rfl⟩
  · intro j hj;cases hj
  · rcases h.ex with ⟨h1, _⟩ | ⟨_, _, h2, h3, _⟩
    · rw[hv]at h1;cases h1
    · intro j hj
      rcases Zd.1 hj with rfl | hj
      · exact h2
      · cases p with
        | none=>cases hj
        | some q=>simp at hj;subst hj;exact(h3 _ rfl).2.1
theorem F3.frame(h:F3 e sz s v n cs O)(hn:s.next≤s'.next)(hf:∀j∈O,s'.heap.get j=s.heap.get j):F3 e sz s' v n cs O:=by
 rcases h with h | ⟨i,p,hv,h,rfl⟩
 ·exact .inl h
 ·exact .inr ⟨i,p,hv,(h.mono hn).frame fun _ _=>hf i (by simp),rfl⟩
theorem F3.slice(h:F3 e sz s v n cs O):∃a cap,v=.slice a n cap∧E7 s.next s a cs:=by
 rcases h with⟨rfl,rfl,rfl,_⟩ | ⟨i,p,_,h,_⟩
 ·exact⟨none,some 0,rfl,E7.nil⟩
 ·exact h.cells
theorem F3.row(h:F3 e sz s v n cs O):(v=.slice none 0 (some 0)∧n=0∧cs=[])∨∃i r,v=.slice (some (i,0)) n none∧i∈O∧s.heap.get i=some (.row r)∧Ht r cs:=by
  rcases h with⟨h1,h2,h3,_⟩ | ⟨i,p,hv,h,rfl⟩
  · exact .inl ⟨h1,h2,h3⟩
  · rcases h.ex with ⟨h1, _⟩ | ⟨_, _, _, _, r, h4, h5, _⟩
    · rw[hv]at h1;cases h1
    · exact .inr ⟨i,r,hv,by simp,h4,h5⟩
theorem WH{r:B0}{cs:List AV}(h:Ht r cs){k:Nat}{u:AV}(hk:cs[k]? = some u):Cz (some (.row r)) k=some u:=by
 have hlt:k<cs.length:=by
  rcases ZO k cs.length with h' | h'
  ·exact h'
  ·rw[ZT h']at hk;cases hk
 show AF (Nat.blt k r.n) (r.c.get k)=_
 rw[Ph (show k<r.n by rw[h.1];exact hlt)]
 exact h.2 k u hk
theorem Hi{r:B0}{cs:List AV}(h:Ht r cs){o m:Nat}(hle:o+m≤cs.length):Bs (some (.row r)) o m=some ((cs.drop o).take m):=by
 show AF (Nat.ble (o+m) r.n) (r.c.take o m)=_
 rw[BS (show o+m≤r.n by rw[h.1];exact hle)]
 have hl:((cs.drop o).take m).length=m:=by simp;omega
 have:=h.take o ((cs.drop o).take m) (fun j u hj=>by
  have hjm:j<m:=by
   rcases ZO j m with h' | h'
   ·exact h'
   ·rw[ZT (by omega)]at hj;cases hj
  rw[Zy hjm,Z1]at hj
  exact hj)
 rw[hl]at this
 exact this
theorem F3.append  {P : Program} {st xt by_ : Nat} (ht : P.underlying st = some (.slice e)) (hs : An    P e = some sz) (hb : CH     P e = some by_) (h0 : 0 < sz) (hx : BX           P xt = true) (hz : B6     P e sz = true) (h : F3  e sz s v n cs O)
    {ax:Option (Nat×Nat)} {m:Nat} {cx:Option Nat} {add:List AV} (hm:0<m) (hsrc:Co P s e sz (.slice ax m cx)=some (m,add)) (ha:add.length=m * sz) (hc:Af add=true) (h1:(n+m) * by_≤1099511627776) (h2:n+m≤1099511627776):
    ∃v' s' O',As P s [st,xt] [v,.slice ax m cx]=some (v',s')∧F3 e sz s' v' (n+m) (cs++add) O'∧s'.next=s.next+1∧(∀j,j<s.next→j ∉ O→s'.heap.get j=s.heap.get j)∧(∀j∈O',j∈O∨s.next≤j)∧X6 v'=some s.next:=by
  have key:∀ (i:Nat) (p:Option Nat),FL e 0 s.next s v n sz cs i p→(∀j,j<s.next→j ∉ O→j≠i∧p≠some j)→(∀j,j=i∨p=some j→j∈O∨s.next≤j) →
      ∃v' s' O',As P s [st,xt] [v,.slice ax m cx]=some (v',s')∧F3 e sz s' v' (n+m) (cs++add) O'∧s'.next=s.next+1∧(∀j,j<s.next→j ∉ O→s'.heap.get j=s.heap.get j)∧(∀j∈O',j∈O∨s.next≤j)∧X6 v'=some s.next:=by
    intro i p hg hi hO
    obtain⟨a,cap,v',s',rfl,happ,i',p',hg',hap,_,rfl,hp',hn',_⟩:=hg.appTo (P:=P) (Y9 _) (ZW _) hz h0 ha hm
    have hv':v'=.slice (some (s.next,0)) (n+m) none:=by
      rcases hg'.ex with⟨_,h0'⟩ | ⟨h1',_⟩
      · omega
      · exact h1'
    refine⟨v',s',s.next::p'.toList,by rw[L8 ht hs hb h0 hx hsrc hc h1 h2];exact happ,.inr ⟨s.next,p',hv',hg',rfl⟩,hn',fun j hj hjO=>?_,fun j hj=>?_,by rw[hv'];rfl⟩
    · exact hap.2 j hj (hi j hj hjO).1 (hi j hj hjO).2
    · rcases Zd.1            hj with rfl | hj
      · exact .inr (Y9 _)
      · rcases hp' with rfl | rfl
        · cases hj
        · simp at hj;subst hj;exact hO _ (.inl rfl)
  rcases h with⟨rfl,rfl,rfl,rfl⟩ | ⟨i,p,rfl,hg,rfl⟩
  · exact key s.next none (FL.zero _ _ _ _ _ _ _) (fun j hj _=>⟨by omega,by simp⟩) (fun j hj=>by rcases hj with rfl | hj;exact .inr (Y9 _);cases hj)
  · refine key i p hg (fun j hj hjO => ⟨fun e => hjO (by simp [e]), fun e => hjO (by simp [e])⟩) (fun j hj => ?_)
    rcases hj with rfl | rfl<;>simp
end
end
end Go.Proofs.YtickdehehcmfbaaGreatDoor.Am
set_option linter.unusedVariables false
set_option linter.unusedSimpArgs false
set_option maxRecDepth 100000
namespace Go.Proofs.YtickdehehcmfbaaGreatDoor.Am
open Go Go.Proofs
noncomputable section
theorem Ho:An Tryz.prog 3=some 1:=by kernel_rfl
theorem YA:CH Tryz.prog 3=some 8:=by kernel_rfl
theorem Dx:Dy Tryz.prog 3=some false:=by kernel_rfl
theorem Y8:Bw Tryz.prog 3=some (.int .i64 (0)):=by kernel_rfl
theorem Y7:An Tryz.prog 9=some 1:=by kernel_rfl
theorem Yo:CH Tryz.prog 9=some 16:=by kernel_rfl
theorem Yn:Dy Tryz.prog 9=some false:=by kernel_rfl
theorem Fj(i o:Nat):AB Tryz.prog 62 (.ptr (some (i,o))) 0=some (.ptr (some (i,o+0))):=by kernel_rfl
theorem RE(i o:Nat):AB Tryz.prog 62 (.ptr (some (i,o))) 1=some (.ptr (some (i,o+1))):=by kernel_rfl
theorem F8:Dy Tryz.prog 25=some false:=by kernel_rfl
theorem ER:An Tryz.prog 70=some 16:=by kernel_rfl
theorem YI:CH Tryz.prog 70=some 184:=by kernel_rfl
theorem F9:Dy Tryz.prog 70=some true:=by kernel_rfl
theorem G5:Bw Tryz.prog 70=some (.agg [(.int .i64 (0)),(.int .i64 (0)),(.int .i64 (0)),(.int .i64 (0)),(.int .i64 (0)),(.str []),(.int .i64 (0)),(.bool false),(.str []),(.str []),(.slice none 0 (some 0)),(.slice none 0 (some 0)),(.int .i64 (0)),(.int .i64 (0)),(.int .i64 (0)),(.map none)]):=by kernel_rfl
theorem Be(i o:Nat):AB Tryz.prog 70 (.ptr (some (i,o))) 0=some (.ptr (some (i,o+0))):=by kernel_rfl
theorem RI(cs:List AV):Cb Tryz.prog 70 (.agg cs) 0=some (.agg ((cs.drop 0).take 6)):=by kernel_rfl
theorem WB(cs:List AV):Cb Tryz.prog 70 (.agg cs) 1=some (.agg ((cs.drop 6).take 7)):=by kernel_rfl
theorem IH(i o:Nat):AB Tryz.prog 70 (.ptr (some (i,o))) 2=some (.ptr (some (i,o+13))):=by kernel_rfl
theorem II(i o:Nat):AB Tryz.prog 70 (.ptr (some (i,o))) 3=some (.ptr (some (i,o+14))):=by kernel_rfl
theorem MY(cs:List AV):Cb Tryz.prog 70 (.agg cs) 3=cs[14]? := by kernel_rfl
theorem RG(i o:Nat):AB Tryz.prog 70 (.ptr (some (i,o))) 4=some (.ptr (some (i,o+15))):=by kernel_rfl
theorem WD(cs:List AV):Cb Tryz.prog 70 (.agg cs) 4=cs[15]? := by kernel_rfl
theorem YZ:An Tryz.prog 59=some 1:=by kernel_rfl
theorem L7:Dy Tryz.prog 59=some false:=by kernel_rfl
theorem W0:An Tryz.prog 65=some 6:=by kernel_rfl
theorem Vn:Dy Tryz.prog 65=some true:=by kernel_rfl
theorem Bg(i o:Nat):AB Tryz.prog 65 (.ptr (some (i,o))) 0=some (.ptr (some (i,o+0))):=by kernel_rfl
theorem RH(cs:List AV):Cb Tryz.prog 65 (.agg cs) 0=cs[0]? := by kernel_rfl
theorem Ct(i o:Nat):AB Tryz.prog 65 (.ptr (some (i,o))) 1=some (.ptr (some (i,o+1))):=by kernel_rfl
theorem IG(i o:Nat):AB Tryz.prog 65 (.ptr (some (i,o))) 2=some (.ptr (some (i,o+2))):=by kernel_rfl
theorem RF(i o:Nat):AB Tryz.prog 65 (.ptr (some (i,o))) 3=some (.ptr (some (i,o+5))):=by kernel_rfl
theorem XD:Dy Tryz.prog 60=some false:=by kernel_rfl
theorem Yf:An Tryz.prog 68=some 1:=by kernel_rfl
theorem OQ:Dy Tryz.prog 68=some false:=by kernel_rfl
theorem Yl:Bw Tryz.prog 68=some (.map none):=by kernel_rfl
theorem YX:An Tryz.prog 27=some 1:=by kernel_rfl
theorem Js:Dy Tryz.prog 27=some false:=by kernel_rfl
theorem Yi:Bw Tryz.prog 27=some (.slice none 0 (some 0)):=by kernel_rfl
theorem FR:An Tryz.prog 43=some 7:=by kernel_rfl
theorem FM:Dy Tryz.prog 43=some true:=by kernel_rfl
theorem Yk:Bw Tryz.prog 43=some (.agg [(.int .i64 (0)),(.bool false),(.str []),(.str []),(.slice none 0 (some 0)),(.slice none 0 (some 0)),(.int .i64 (0))]):=by kernel_rfl
theorem MX(i o:Nat):AB Tryz.prog 43 (.ptr (some (i,o))) 0=some (.ptr (some (i,o+0))):=by kernel_rfl
theorem RD(i o:Nat):AB Tryz.prog 43 (.ptr (some (i,o))) 4=some (.ptr (some (i,o+4))):=by kernel_rfl
def Pl:List AD:=[
 ⟨none,.p1 some,[(.const (.int .i64 (0)))],(.set 1),[]⟩]
def Pm:List AD:=[
 ⟨none,.p2 (AU Tryz.prog .eql 25),[(.var 0),(.const (.ptr none))],(.set 2),[]⟩]
def UK:List AD:=[
 ⟨none,.p1 some,[(.const (.int .i64 (0)))],(.set 1),[]⟩]
def UL:List AD:=[
 ⟨none,.p1 Az,[.var 0],.push,[]⟩,
 ⟨none,.p1 (fun x=>AB Tryz.prog 62 x 0),[.loc 0],.push,[]⟩,
 ⟨none,.r1 (fun s a=>AO Tryz.prog s 59 a),[.loc 0],.push,[]⟩,
 ⟨none,.r (fun s l=>match l with | [x]=>Ce Tryz.prog s 59 x | _=>none),[.loc 0],.push,[]⟩,
 ⟨none,.p1 some,[.loc 0],(.set 1),[]⟩]
def YJ:BC:=⟨1,3,(.seq (.ops Pl) (.seq (.seq (.ops Pm) (.cond (.var 2)
 (.seq (.ops UK) .ret)
 .skip)) (.seq (.ops UL) .ret))),[((.var 1),none)]⟩
def Pn:List AD:=[
 ⟨none,.p1 some,[(.const (.int .i64 (0)))],(.set 2),[]⟩]
def Po:List AD:=[
 ⟨none,.p2 (AU Tryz.prog .eql 25),[(.var 0),(.const (.ptr none))],(.set 3),[]⟩]
def UM:List AD:=[
 ⟨none,.p1 some,[(.const (.int .i64 (0)))],(.set 2),[]⟩]
def UN:List AD:=[
 ⟨none,.p (fun l=>Ab Tryz.prog 65 (zipIdx [0,1] l)),[(.const (.int .i64 (0))),(.var 1)],.push,[]⟩,
 ⟨none,.p (fun l=>Ab Tryz.prog 43 (zipIdx [] l)),[],.push,[]⟩,
 ⟨none,.call 32,[(.var 0),(.loc 1),(.loc 0),(.const (.slice none 0 (some 0)))],.push,[]⟩,
 ⟨none,.p1 some,[.loc 0],(.set 2),[]⟩]
def YK:BC:=⟨2,4,(.seq (.ops Pn) (.seq (.seq (.ops Po) (.cond (.var 3)
 (.seq (.ops UM) .ret)
 .skip)) (.seq (.ops UN) .ret))),[((.var 2),none)]⟩
def UO:List AD:=[
 ⟨none,.mk (fun l=>match l with | [v]=>FN 25 v | _=>none),[.var 0],(.set 3),[]⟩,
 ⟨none,.mk (fun l=>match l with | [v]=>FN 27 v | _=>none),[.var 2],(.set 4),[]⟩,
 ⟨none,.p1 some,[(.const (.int .i64 (0)))],(.set 5),[]⟩]
def UP:List AD:=[
 ⟨none,.r1 (fun s a=>AO Tryz.prog s 25 a),[.var 3],.push,[]⟩,
 ⟨none,.p2 (AU Tryz.prog .eql 25),[(.loc 0),(.const (.ptr none))],(.set 6),[]⟩]
def XE:List AD:=[
 ⟨none,.p1 some,[(.const (.int .i64 (0)))],(.set 5),[]⟩]
def UQ:List AD:=[
 ⟨none,.r1 (fun s a=>AO Tryz.prog s 25 a),[.var 3],.push,[]⟩,
 ⟨none,.r1 (fun s a=>AO Tryz.prog s 25 a),[.var 3],.push,[]⟩,
 ⟨none,.mk (fun l=>(AW Tryz.prog 27 1 (zipIdx [0] l)).bind fun r=>some (r,.slice 1)),[.var 1],.push,[]⟩,
 ⟨none,.p (fun l=>some (.func 35 (l.take 0) (l.drop 0))),[.var 4,.var 3],.push,[]⟩,
 ⟨none,.call 34,[.loc 2,.loc 1],.push,[⟨none,.r1 (fun s a=>AO Tryz.prog s 25 a),[.var 3],(.loc 4)⟩]⟩,
 ⟨none,.p2 (AQ Tryz.prog 27),[(.loc 0),(.const (.int .i64 (0)))],.push,[]⟩,
 ⟨none,.r1 (fun s a=>AO Tryz.prog s 3 a),[.loc 0],.push,[]⟩,
 ⟨none,.call 33,[.loc 6,.loc 0,.loc 3],.push,[]⟩,
 ⟨none,.p1 some,[.loc 0],(.set 5),[]⟩]
def Yp:BC:=⟨3,7,(.seq (.ops UO) (.seq (.seq (.ops UP) (.cond (.var 6)
 (.seq (.ops XE) .ret)
 .skip)) (.seq (.ops UQ) .ret))),[((.var 5),none)]⟩
def UR:List AD:=[
 ⟨none,.p1 some,[(.const (.slice none 0 (some 0)))],(.set 2),[]⟩]
def US:List AD:=[
 ⟨none,.call 39,[.var 0,.var 1],.push,[]⟩,
 ⟨none,.p1 (fun x=>Cb Tryz.prog 70 x 4),[.loc 0],.push,[]⟩,
 ⟨none,.call 38,[.loc 0],.push,[]⟩,
 ⟨none,.call 37,[.loc 0],.push,[]⟩,
 ⟨none,.p1 some,[.loc 0],(.set 2),[]⟩]
def Yq:BC:=⟨2,3,(.seq (.ops UR) (.seq (.ops US) .ret)),[((.var 2),none)]⟩
def Pp:List AD:=[
 ⟨none,.mk (fun l=>match l with | [v]=>FN 25 v | _=>none),[.var 0],(.set 3),[]⟩,
 ⟨none,.p1 some,[(.const (.int .i64 (0)))],(.set 4),[]⟩]
def Pq:List AD:=[
 ⟨none,.r1 (fun s a=>AO Tryz.prog s 25 a),[.var 3],.push,[]⟩,
 ⟨none,.p2 (AU Tryz.prog .eql 25),[(.loc 0),(.const (.ptr none))],(.set 7),[]⟩]
def UT:List AD:=[
 ⟨none,.p1 some,[(.const (.int .i64 (0)))],(.set 4),[]⟩]
def UU:List AD:=[
 ⟨none,.r1 (fun s a=>AO Tryz.prog s 25 a),[.var 3],.push,[]⟩,
 ⟨none,.mk (fun l=>(AW Tryz.prog 27 1 (zipIdx [0] l)).bind fun r=>some (r,.slice 1)),[.var 1],.push,[]⟩,
 ⟨none,.e (fun s l=>As Tryz.prog s [27,27] l),[.loc 0,.var 2],.push,[⟨none,.r1 (fun s a=>AO Tryz.prog s 25 a),[.var 3],(.loc 2)⟩]⟩,
 ⟨none,.call 34,[.loc 2,.loc 0],.push,[]⟩,
 ⟨none,.p1 some,[.loc 0],(.set 5),[]⟩]
def UV:List AD:=[
 ⟨none,.r (Ad Tryz.prog 27 true false false),[(.var 5),(.const (.int .i64 (1)))],.push,[]⟩,
 ⟨none,.mk (fun l=>match l with | []=>B2 Tryz.prog 27 | _=>none),[],(.set 6),[]⟩,
 ⟨none,.e (fun s=>Xs (fun a x=>Xu (BH Tryz.prog s 27 a x))),[.var 6,.loc 0],.push,[]⟩]
def UW:List AD:=[
 ⟨none,.r1 (fun s a=>AO Tryz.prog s 25 a),[.var 3],.push,[]⟩,
 ⟨none,.p2 (AQ Tryz.prog 27),[(.var 5),(.const (.int .i64 (0)))],.push,[]⟩,
 ⟨none,.r1 (fun s a=>AO Tryz.prog s 3 a),[.loc 0],.push,[]⟩,
 ⟨none,.p (fun l=>some (.func 40 (l.take 0) (l.drop 0))),[.var 6,.var 3],.push,[]⟩,
 ⟨none,.call 33,[.loc 3,.loc 1,.loc 0],.push,[]⟩,
 ⟨none,.p1 some,[.loc 0],(.set 4),[]⟩]
def YL:BC:=⟨3,8,(.seq (.ops Pp) (.seq (.seq (.ops Pq) (.cond (.var 7)
 (.seq (.ops UT) .ret)
 .skip)) (.seq (.ops UU) (.seq (.ops UV) (.seq (.ops UW) .ret))))),[((.var 4),none)]⟩
def NL:List AD:=[
 ⟨none,.p1 some,[(.const (.int .i64 (0)))],(.set 2),[]⟩]
def NM:List AD:=[
 ⟨none,.call 39,[.var 0,.var 1],.push,[]⟩,
 ⟨none,.p1 (fun x=>Cb Tryz.prog 70 x 3),[.loc 0],.push,[]⟩,
 ⟨none,.p1 some,[.loc 0],(.set 2),[]⟩]
def YB:BC:=⟨2,3,(.seq (.ops NL) (.seq (.ops NM) .ret)),[((.var 2),none)]⟩
def UX:List AD:=[
 ⟨none,.p1 some,[(.const (.slice none 0 (some 0)))],(.set 2),[]⟩]
def UY:List AD:=[
 ⟨none,.call 39,[.var 0,.var 1],.push,[]⟩,
 ⟨none,.mk (fun l=>match l with | []=>B2 Tryz.prog 70 | _=>none),[],(.set 3),[]⟩,
 ⟨none,.e (fun s=>Xs (fun a x=>Xu (BH Tryz.prog s 70 a x))),[.var 3,.loc 0],.push,[]⟩]
def UZ:List AD:=[
 ⟨none,.p1 (fun x=>AB Tryz.prog 70 x 0),[.var 3],.push,[]⟩,
 ⟨none,.p1 (fun x=>AB Tryz.prog 65 x 2),[.loc 0],.push,[]⟩,
 ⟨none,.p1 (fun x=>AB Tryz.prog 70 x 2),[.var 3],.push,[]⟩,
 ⟨none,.r1 (fun s a=>AO Tryz.prog s 3 a),[.loc 0],.push,[]⟩,
 ⟨none,.r (Ad Tryz.prog 44 false true false),[.loc 2,.loc 0],.push,[]⟩,
 ⟨none,.call 43,[.loc 0],.push,[]⟩,
 ⟨none,.p1 some,[.loc 0],(.set 2),[]⟩]
def Yr:BC:=⟨2,4,(.seq (.ops UX) (.seq (.ops UY) (.seq (.ops UZ) .ret))),[((.var 2),none)]⟩
def Pr:List AD:=[
 ⟨none,.p1 some,[(.const (.int .i64 (0)))],(.set 2),[]⟩]
def Ps:List AD:=[
 ⟨none,.call 39,[.var 0,.var 1],.push,[]⟩,
 ⟨none,.p1 (fun x=>Cb Tryz.prog 70 x 0),[.loc 0],.push,[]⟩,
 ⟨none,.p1 (fun x=>Cb Tryz.prog 65 x 0),[.loc 0],.push,[]⟩,
 ⟨none,.p1 some,[.loc 0],(.set 2),[]⟩]
def YM:BC:=⟨2,3,(.seq (.ops Pr) (.seq (.ops Ps) .ret)),[((.var 2),none)]⟩
def Ua:List AD:=[
 ⟨none,.p1 some,[(.const (.int .i64 (0)))],(.set 2),[]⟩]
def Ub:List AD:=[
 ⟨none,.p2 (AU Tryz.prog .eql 25),[(.var 0),(.const (.ptr none))],(.set 3),[]⟩]
def XF:List AD:=[
 ⟨none,.p1 some,[(.const (.int .i64 (0)))],(.set 2),[]⟩]
def Uc:List AD:=[
 ⟨none,.p (fun l=>match l with | v::l=>Dp true v l | []=>none),[(.var 1),(.const (.int .i64 (0)))],.push,[]⟩,
 ⟨none,.p (fun l=>Ab Tryz.prog 65 (zipIdx [0,1] l)),[(.const (.int .i64 (1))),(.loc 0)],.push,[]⟩,
 ⟨none,.p (fun l=>Ab Tryz.prog 43 (zipIdx [] l)),[],.push,[]⟩,
 ⟨none,.call 32,[(.var 0),(.loc 1),(.loc 0),(.const (.slice none 0 (some 0)))],.push,[]⟩,
 ⟨none,.p1 some,[.loc 0],(.set 2),[]⟩]
def Ys:BC:=⟨2,4,(.seq (.ops Ua) (.seq (.seq (.ops Ub) (.cond (.var 3)
 (.seq (.ops XF) .ret)
 .skip)) (.seq (.ops Uc) .ret))),[((.var 2),none)]⟩
def Pt:List AD:=[
 ⟨none,.mk (fun l=>match l with | [v]=>FN 43 v | _=>none),[.var 1],(.set 2),[]⟩,
 ⟨none,.p1 some,[(.const (.int .i64 (0)))],(.set 3),[]⟩]
def Pu:List AD:=[
 ⟨none,.p2 (AU Tryz.prog .eql 25),[(.var 0),(.const (.ptr none))],(.set 4),[]⟩]
def XG:List AD:=[
 ⟨none,.p1 some,[(.const (.int .i64 (0)))],(.set 3),[]⟩]
def Pv:List AD:=[
 ⟨none,.r1 (fun s a=>AO Tryz.prog s 43 a),[.var 2],.push,[]⟩,
 ⟨none,.call 44,[.loc 0],.push,[]⟩,
 ⟨none,.p1 (X8 Tryz.prog Go.UnOp.not),[.loc 0],.push,[]⟩,
 ⟨(some ((.loc 0),false)),.p1 (fun x=>AB Tryz.prog 43 x 0),[.var 2],.push,[]⟩,
 ⟨(some ((.loc 1),false)),.r1 (fun s a=>AO Tryz.prog s 3 a),[.loc 0],.push,[]⟩,
 ⟨(some ((.loc 2),false)),.p2 (AU Tryz.prog .eql 3),[(.loc 0),(.const (.int .i64 (5)))],.push,[]⟩,
 ⟨none,.p Rn,[(.loc 3),(.const (.bool true)),(.loc 0)],.push,[]⟩,
 ⟨(some ((.loc 0),false)),.p1 (fun x=>AB Tryz.prog 43 x 4),[.var 2],.push,[]⟩,
 ⟨(some ((.loc 1),false)),.r1 (fun s a=>AO Tryz.prog s 39 a),[.loc 0],.push,[]⟩,
 ⟨(some ((.loc 2),false)),.r (fun s l=>match l with | [x]=>Ce Tryz.prog s 39 x | _=>none),[.loc 0],.push,[]⟩,
 ⟨(some ((.loc 3),false)),.p2 (AU Tryz.prog .gtr 3),[(.loc 0),(.const (.int .i64 (0)))],.push,[]⟩,
 ⟨none,.p Rn,[(.loc 4),(.const (.bool true)),(.loc 0)],(.set 5),[]⟩]
def JI:List AD:=[
 ⟨none,.p (fun l=>Ab Tryz.prog 43 (zipIdx [] l)),[],.push,[]⟩,
 ⟨none,.e (fun s=>Xs (fun a x=>Xu (BH Tryz.prog s 43 a x))),[.var 2,.loc 0],.push,[]⟩]
def H1:List AD:=[
 ⟨none,.r1 (fun s a=>AO Tryz.prog s 43 a),[.var 2],.push,[]⟩,
 ⟨none,.r1 (fun s a=>AO Tryz.prog s 43 a),[.var 2],.push,[]⟩,
 ⟨none,.call 30,[.loc 1],.push,[⟨none,.r1 (fun s a=>AO Tryz.prog s 43 a),[.var 2],(.loc 1)⟩]⟩,
 ⟨none,.p (fun l=>Ab Tryz.prog 65 (zipIdx [0,3] l)),[(.const (.int .i64 (2))),(.loc 0)],.push,[]⟩,
 ⟨none,.call 32,[(.var 0),(.loc 0),(.loc 2),(.const (.slice none 0 (some 0)))],.push,[]⟩,
 ⟨none,.p1 some,[.loc 0],(.set 3),[]⟩]
def YN:BC:=⟨2,6,(.seq (.ops Pt) (.seq (.seq (.ops Pu) (.cond (.var 4)
 (.seq (.ops XG) .ret)
 .skip)) (.seq (.seq (.ops Pv) (.cond (.var 5)
 (.ops JI)
 .skip)) (.seq (.ops H1) .ret)))),[((.var 3),none)]⟩
def Ud:List AD:=[
 ⟨none,.mk (fun l=>match l with | []=>B2 Tryz.prog 43 | _=>none),[],(.set 2),[]⟩]
def Ue:List AD:=[
 ⟨none,.call 39,[.var 0,.var 1],.push,[]⟩,
 ⟨none,.p1 (fun x=>Cb Tryz.prog 70 x 1),[.loc 0],.push,[]⟩,
 ⟨none,.e (fun s=>Xs (fun a x=>Xu (BH Tryz.prog s 43 a x))),[.var 2,.loc 0],.push,[]⟩]
def Yt:BC:=⟨2,3,(.seq (.ops Ud) (.seq (.ops Ue) .ret)),[((.var 2),some 43)]⟩
def Uf:List AD:=[
 ⟨none,.p1 some,[(.const (.int .i64 (0)))],(.set 3),[]⟩]
def Ug:List AD:=[
 ⟨none,.p2 (AU Tryz.prog .eql 25),[(.var 0),(.const (.ptr none))],(.set 4),[]⟩]
def Uh:List AD:=[
 ⟨none,.p1 some,[(.const (.int .i64 (0)))],(.set 3),[]⟩]
def XH:List AD:=[
 ⟨none,.p (fun l=>Ab Tryz.prog 65 (zipIdx [0] l)),[(.const (.int .i64 (3)))],.push,[]⟩,
 ⟨none,.p (fun l=>Ab Tryz.prog 43 (zipIdx [] l)),[],.push,[]⟩,
 ⟨none,.mk (fun l=>(AW Tryz.prog 27 2 (zipIdx [0,1] l)).bind fun r=>some (r,.slice 2)),[.var 1,.var 2],.push,[]⟩,
 ⟨none,.call 34,[.var 0,.loc 0],.push,[]⟩,
 ⟨none,.call 32,[.var 0,.loc 3,.loc 2,.loc 0],.push,[]⟩,
 ⟨none,.p1 some,[.loc 0],(.set 3),[]⟩]
def Yu:BC:=⟨3,5,(.seq (.ops Uf) (.seq (.seq (.ops Ug) (.cond (.var 4)
 (.seq (.ops Uh) .ret)
 .skip)) (.seq (.ops XH) .ret))),[((.var 3),none)]⟩
def Ui:List AD:=[
 ⟨none,.p1 some,[(.const (.int .i64 (0)))],(.set 4),[]⟩]
def Uj:List AD:=[
 ⟨none,.p2 (AU Tryz.prog .eql 25),[(.var 0),(.const (.ptr none))],(.set 5),[]⟩]
def XI:List AD:=[
 ⟨none,.p1 some,[(.const (.int .i64 (0)))],(.set 4),[]⟩]
def Uk:List AD:=[
 ⟨none,.p (fun l=>Ab Tryz.prog 65 (zipIdx [0] l)),[(.const (.int .i64 (4)))],.push,[]⟩,
 ⟨none,.p (fun l=>Ab Tryz.prog 43 (zipIdx [] l)),[],.push,[]⟩,
 ⟨none,.mk (fun l=>(AW Tryz.prog 27 3 (zipIdx [0,1,2] l)).bind fun r=>some (r,.slice 3)),[.var 1,.var 2,.var 3],.push,[]⟩,
 ⟨none,.call 34,[.var 0,.loc 0],.push,[]⟩,
 ⟨none,.call 32,[.var 0,.loc 3,.loc 2,.loc 0],.push,[]⟩,
 ⟨none,.p1 some,[.loc 0],(.set 4),[]⟩]
def Yv:BC:=⟨4,6,(.seq (.ops Ui) (.seq (.seq (.ops Uj) (.cond (.var 5)
 (.seq (.ops XI) .ret)
 .skip)) (.seq (.ops Uk) .ret))),[((.var 4),none)]⟩
def Kz:List AD:=[
 ⟨none,.p1 some,[(.const (.str []))],(.set 2),[]⟩]
def K0:List AD:=[
 ⟨none,.call 39,[.var 0,.var 1],.push,[]⟩,
 ⟨none,.mk (fun l=>match l with | []=>B2 Tryz.prog 70 | _=>none),[],(.set 3),[]⟩,
 ⟨none,.e (fun s=>Xs (fun a x=>Xu (BH Tryz.prog s 70 a x))),[.var 3,.loc 0],.push,[]⟩]
def JJ:List AD:=[
 ⟨none,.p2 (AU Tryz.prog .eql 25),[(.var 0),(.const (.ptr none))],.push,[]⟩,
 ⟨(some ((.loc 0),false)),.p1 (fun x=>AB Tryz.prog 70 x 3),[.var 3],.push,[]⟩,
 ⟨(some ((.loc 1),false)),.r1 (fun s a=>AO Tryz.prog s 3 a),[.loc 0],.push,[]⟩,
 ⟨(some ((.loc 2),false)),.p2 (AU Tryz.prog .gtr 3),[(.loc 0),(.const (.int .i64 (4096)))],.push,[]⟩,
 ⟨none,.p Rn,[(.loc 3),(.const (.bool true)),(.loc 0)],(.set 7),[]⟩]
def Px:List AD:=[
 ⟨none,.p1 some,[(.const (.str []))],(.set 2),[]⟩]
def G8:List AD:=[
 ⟨none,.p1 some,[(.const (.str [40,115,101,116]))],(.set 4),[]⟩]
def G9:List AD:=[
 ⟨none,.p1 (fun x=>AB Tryz.prog 70 x 0),[.var 3],.push,[]⟩,
 ⟨none,.p1 (fun x=>AB Tryz.prog 65 x 0),[.loc 0],.push,[]⟩,
 ⟨none,.r1 (fun s a=>AO Tryz.prog s 3 a),[.loc 0],(.set 8),[]⟩]
def HA:List AD:=[
 ⟨none,.p2 (AU Tryz.prog .eql 3),[(.var 8),(.const (.int .i64 (0)))],.push,[]⟩,
 ⟨none,.p1 some,[.loc 0],(.set 9),[]⟩]
def Ul:List AD:=[
 ⟨none,.p1 (fun x=>AB Tryz.prog 70 x 0),[.var 3],.push,[]⟩,
 ⟨none,.p1 (fun x=>AB Tryz.prog 65 x 1),[.loc 0],.push,[]⟩,
 ⟨none,.r1 (fun s a=>AO Tryz.prog s 3 a),[.loc 0],.push,[]⟩,
 ⟨none,.call 45,[.loc 0],.push,[]⟩,
 ⟨none,.p2 (AU Tryz.prog .add 9),[(.const (.str [120])),(.loc 0)],.push,[]⟩,
 ⟨none,.p1 some,[.loc 0],(.set 2),[]⟩]
def H3:List AD:=[
 ⟨none,.p2 (AU Tryz.prog .eql 3),[(.var 8),(.const (.int .i64 (1)))],.push,[]⟩,
 ⟨none,.p1 some,[.loc 0],(.set 10),[]⟩]
def Py:List AD:=[
 ⟨none,.p1 (fun x=>AB Tryz.prog 70 x 0),[.var 3],.push,[]⟩,
 ⟨none,.p1 (fun x=>AB Tryz.prog 65 x 1),[.loc 0],.push,[]⟩,
 ⟨none,.r1 (fun s a=>AO Tryz.prog s 3 a),[.loc 0],.push,[]⟩,
 ⟨none,.call 45,[.loc 0],.push,[]⟩,
 ⟨none,.p2 (AU Tryz.prog .add 9),[(.const (.str [98])),(.loc 0)],.push,[]⟩,
 ⟨none,.p1 some,[.loc 0],(.set 2),[]⟩]
def H2:List AD:=[
 ⟨none,.p2 (AU Tryz.prog .eql 3),[(.var 8),(.const (.int .i64 (2)))],.push,[]⟩,
 ⟨none,.p1 some,[.loc 0],(.set 11),[]⟩]
def MA:List AD:=[
 ⟨none,.p1 (fun x=>AB Tryz.prog 70 x 0),[.var 3],.push,[]⟩,
 ⟨none,.p1 (fun x=>AB Tryz.prog 65 x 3),[.loc 0],.push,[]⟩,
 ⟨none,.r1 (fun s a=>AO Tryz.prog s 9 a),[.loc 0],.push,[]⟩,
 ⟨none,.p1 some,[.loc 0],(.set 2),[]⟩]
def MB:List AD:=[
 ⟨none,.p2 (AU Tryz.prog .eql 3),[(.var 8),(.const (.int .i64 (3)))],.push,[]⟩,
 ⟨none,.p1 some,[.loc 0],(.set 12),[]⟩]
def Pw:List AD:=[
 ⟨none,.p1 some,[(.const (.str [40,103,101,116]))],(.set 4),[]⟩]
def MC:List AD:=[
 ⟨none,.mk (fun l=>(AW Tryz.prog 39 1 (zipIdx [0] l)).bind fun r=>some (r,.slice 1)),[.var 4],.push,[]⟩,
 ⟨none,.p1 some,[.loc 0],(.set 5),[]⟩]
def MD:List AD:=[
 ⟨none,.p1 (fun x=>AB Tryz.prog 70 x 0),[.var 3],.push,[]⟩,
 ⟨none,.p1 (fun x=>AB Tryz.prog 65 x 2),[.loc 0],.push,[]⟩,
 ⟨none,.p1 (fun x=>AB Tryz.prog 70 x 2),[.var 3],.push,[]⟩,
 ⟨none,.r1 (fun s a=>AO Tryz.prog s 3 a),[.loc 0],.push,[]⟩,
 ⟨none,.r (Ad Tryz.prog 44 false true false),[.loc 2,.loc 0],(.set 13),[]⟩,
 ⟨none,.r (fun s l=>match l with | [x]=>Ce Tryz.prog s 27 x | _=>none),[.var 13],(.set 14),[]⟩,
 ⟨none,.p1 some,[(.const (.int .i64 (0)))],(.set 15),[]⟩]
def J0:List AD:=[
 ⟨none,.p2 (AU Tryz.prog .lss 3),[.var 15,.var 14],(.set 16),[]⟩]
def ME:List AD:=[
 ⟨none,.p2 (AQ Tryz.prog 27),[.var 13,.var 15],.push,[]⟩,
 ⟨none,.r1 (fun s a=>AO Tryz.prog s 3 a),[.loc 0],.push,[]⟩,
 ⟨none,.p1 some,[.loc 0],(.set 6),[]⟩]
def MF:List AD:=[
 ⟨none,.p1 some,[.var 5],.push,[]⟩,
 ⟨none,.call 26,[.var 0,.var 6],.push,[]⟩,
 ⟨none,.mk (fun l=>(AW Tryz.prog 39 1 (zipIdx [0] l)).bind fun r=>some (r,.slice 1)),[.loc 0],.push,[]⟩,
 ⟨none,.e (fun s l=>As Tryz.prog s [39,39] l),[.loc 2,.loc 0],.push,[]⟩,
 ⟨none,.p1 some,[.loc 0],(.set 5),[]⟩]
def MG:List AD:=[
 ⟨none,.p2 (AU Tryz.prog .add 3),[(.var 15),(.const (.int .i64 (1)))],.push,[]⟩,
 ⟨none,.p1 some,[.loc 0],(.set 15),[]⟩]
def Ec:Ai:=(.seq (.ops J0) (.seq (.cond (.var 16)
 .skip
 (.exit 1)) (.seq (.block 2 (.seq (.ops ME) (.ops MF))) (.ops MG))))
def MH:List AD:=[
 ⟨none,.call 46,[(.var 5),(.const (.str [32]))],.push,[]⟩,
 ⟨none,.p2 (AU Tryz.prog .add 9),[(.loc 0),(.const (.str [41]))],.push,[]⟩,
 ⟨none,.p1 some,[.loc 0],(.set 2),[]⟩]
def XJ:BC:=⟨2,17,(.seq (.ops Kz) (.seq (.ops K0) (.seq (.seq (.ops JJ) (.cond (.var 7)
 (.seq (.ops Px) .ret)
 .skip)) (.seq (.ops G8) (.seq (.seq (.ops G9) (.block 0 (.seq (.ops HA) (.cond (.var 9)
 (.seq (.ops Ul) .ret)
 (.seq (.ops H3) (.cond (.var 10)
 (.seq (.ops Py) .ret)
 (.seq (.ops H2) (.cond (.var 11)
 (.seq (.ops MA) .ret)
 (.seq (.ops MB) (.cond (.var 12)
 (.ops Pw)
 .skip)))))))))) (.seq (.ops MC) (.seq (.seq (.ops MD) (.block 1 (.loop Ec))) (.seq (.ops MH) .ret)))))))),[((.var 2),none)]⟩
def Um:List AD:=[
 ⟨none,.p1 some,[(.const (.ptr none))],(.set 0),[]⟩]
def Un:List AD:=[
 ⟨none,.mk (fun l=>match l with | []=>(DH Tryz.prog 60).bind fun kt=>some (.map kt [],.map) | _=>none),[],.push,[]⟩,
 ⟨none,.p (fun l=>Ab Tryz.prog 62 (zipIdx [1] l)),[.loc 0],.push,[]⟩,
 ⟨none,.mk (fun l=>match l with | [v]=>FN 62 v | _=>none),[.loc 0],.push,[]⟩,
 ⟨none,.p1 some,[.loc 0],(.set 0),[]⟩]
def Yw:BC:=⟨0,1,(.seq (.ops Um) (.seq (.ops Un) .ret)),[((.var 0),none)]⟩
def Uo:List AD:=[
 ⟨none,.mk (fun l=>match l with | [v]=>FN 65 v | _=>none),[.var 1],(.set 4),[]⟩,
 ⟨none,.mk (fun l=>match l with | [v]=>FN 43 v | _=>none),[.var 2],(.set 5),[]⟩,
 ⟨none,.p1 some,[(.const (.int .i64 (0)))],(.set 6),[]⟩]
def Up:List AD:=[
 ⟨none,.p1 (fun x=>AB Tryz.prog 65 x 2),[.var 4],.push,[]⟩,
 ⟨none,.r (Ad Tryz.prog 44 false false false),[.loc 0],.push,[]⟩,
 ⟨none,.e (fun s l=>IB Tryz.prog s [27,27] l),[.loc 0,.var 3],.push,[]⟩]
def Uq:List AD:=[
 ⟨none,.p1 Az,[.var 0],.push,[]⟩,
 ⟨none,.p1 (fun x=>AB Tryz.prog 62 x 1),[.loc 0],.push,[]⟩,
 ⟨none,.r1 (fun s a=>AO Tryz.prog s 60 a),[.loc 0],.push,[]⟩,
 ⟨none,.r1 (fun s a=>AO Tryz.prog s 65 a),[.var 4],.push,[]⟩,
 ⟨none,.r (fun s=>Xs (fun m k=>Bp Tryz.prog s 60 m k true)),[.loc 1,.loc 0],.push,[]⟩,
 ⟨none,.p1 (fun x=>Xv x 0),[.loc 0],.push,[]⟩,
 ⟨none,.p1 (fun x=>Xv x 1),[.loc 1],.push,[]⟩,
 ⟨none,.p1 some,[.loc 1],(.set 7),[]⟩,
 ⟨none,.p1 some,[.loc 0],(.set 8),[]⟩]
def P3:List AD:=[
 ⟨none,.p1 some,[.var 8],(.set 11),[]⟩]
def Ur:List AD:=[
 ⟨none,.p1 some,[.var 7],(.set 6),[]⟩]
def Us:List AD:=[
 ⟨none,.r1 (fun s a=>AO Tryz.prog s 65 a),[.var 4],.push,[]⟩,
 ⟨none,.r1 (fun s a=>AO Tryz.prog s 43 a),[.var 5],.push,[]⟩,
 ⟨none,.r (fun s l=>match l with | [x]=>Ce Tryz.prog s 27 x | _=>none),[.var 3],.push,[]⟩,
 ⟨none,.mk (fun l=>match l with | []=>(DH Tryz.prog 68).bind fun kt=>some (.map kt [],.map) | _=>none),[],.push,[]⟩,
 ⟨none,.p (fun l=>Ab Tryz.prog 70 (zipIdx [0,1,2,3,4] l)),[(.loc 3),(.loc 2),(.loc 1),(.const (.int .i64 (1))),(.loc 0)],.push,[]⟩,
 ⟨none,.mk (fun l=>match l with | []=>B2 Tryz.prog 70 | _=>none),[],(.set 9),[]⟩,
 ⟨none,.e (fun s=>Xs (fun a x=>Xu (BH Tryz.prog s 70 a x))),[.var 9,.loc 0],.push,[]⟩]
def Ut:List AD:=[
 ⟨none,.p1 (fun x=>AB Tryz.prog 65 x 0),[.var 4],.push,[]⟩,
 ⟨none,.r1 (fun s a=>AO Tryz.prog s 3 a),[.loc 0],.push,[]⟩,
 ⟨none,.p2 (AU Tryz.prog .eql 3),[(.loc 0),(.const (.int .i64 (0)))],(.set 12),[]⟩]
def Uu:List AD:=[
 ⟨none,.p1 (fun x=>AB Tryz.prog 70 x 4),[.var 9],.push,[]⟩,
 ⟨none,.r1 (fun s a=>AO Tryz.prog s 68 a),[.loc 0],.push,[]⟩,
 ⟨none,.p1 (fun x=>AB Tryz.prog 65 x 1),[.var 4],.push,[]⟩,
 ⟨none,.r1 (fun s a=>AO Tryz.prog s 3 a),[.loc 0],.push,[]⟩,
 ⟨none,.e (fun s=>Xt (fun m k x=>Xu (Br Tryz.prog s 68 m k x))),[(.loc 2),(.loc 0),(.const (.int .i64 (1)))],.push,[]⟩]
def P4:List AD:=[
 ⟨none,.p1 some,[.var 3],(.set 13),[]⟩,
 ⟨none,.r (fun s l=>match l with | [x]=>Ce Tryz.prog s 27 x | _=>none),[.var 13],(.set 14),[]⟩,
 ⟨none,.p1 some,[(.const (.int .i64 (0)))],(.set 15),[]⟩]
def P5:List AD:=[
 ⟨none,.p2 (AU Tryz.prog .lss 3),[.var 15,.var 14],(.set 16),[]⟩]
def Pz:List AD:=[
 ⟨none,.p2 (AQ Tryz.prog 27),[.var 13,.var 15],.push,[]⟩,
 ⟨none,.r1 (fun s a=>AO Tryz.prog s 3 a),[.loc 0],.push,[]⟩,
 ⟨none,.p1 some,[.loc 0],(.set 10),[]⟩]
def P0:List AD:=[
 ⟨none,.p1 (fun x=>AB Tryz.prog 70 x 3),[.var 9],.push,[]⟩,
 ⟨none,.r1 (fun s a=>AO Tryz.prog s 3 a),[.loc 0],.push,[]⟩,
 ⟨none,.p1 Az,[.var 0],.push,[]⟩,
 ⟨none,.p1 (fun x=>AB Tryz.prog 62 x 0),[.loc 0],.push,[]⟩,
 ⟨none,.r1 (fun s a=>AO Tryz.prog s 59 a),[.loc 0],.push,[]⟩,
 ⟨none,.p2 (AQ Tryz.prog 59),[.loc 0,.var 10],.push,[]⟩,
 ⟨none,.p1 (fun x=>AB Tryz.prog 70 x 3),[.loc 0],.push,[]⟩,
 ⟨none,.r1 (fun s a=>AO Tryz.prog s 3 a),[.loc 0],.push,[]⟩,
 ⟨none,.p2 (AU Tryz.prog .add 3),[.loc 6,.loc 0],.push,[]⟩,
 ⟨none,.p (fun l=>match l with | v::l=>Dp false v l | []=>none),[(.loc 0),(.const (.int .i64 (4097)))],.push,[]⟩,
 ⟨none,.p1 (fun x=>AB Tryz.prog 70 x 3),[.var 9],.push,[]⟩,
 ⟨none,.e (fun s=>Xs (fun a x=>Xu (BH Tryz.prog s 3 a x))),[.loc 0,.loc 1],.push,[]⟩]
def P1:List AD:=[
 ⟨none,.p1 (fun x=>AB Tryz.prog 70 x 4),[.var 9],.push,[]⟩,
 ⟨none,.r1 (fun s a=>AO Tryz.prog s 68 a),[.loc 0],.push,[]⟩,
 ⟨none,.p1 Az,[.var 0],.push,[]⟩,
 ⟨none,.p1 (fun x=>AB Tryz.prog 62 x 0),[.loc 0],.push,[]⟩,
 ⟨none,.r1 (fun s a=>AO Tryz.prog s 59 a),[.loc 0],.push,[]⟩,
 ⟨none,.p2 (AQ Tryz.prog 59),[.loc 0,.var 10],.push,[]⟩,
 ⟨none,.p1 (fun x=>AB Tryz.prog 70 x 4),[.loc 0],.push,[]⟩,
 ⟨none,.r1 (fun s a=>AO Tryz.prog s 68 a),[.loc 0],.push,[]⟩,
 ⟨none,.call 55,[.loc 6,.loc 0],.push,[]⟩]
def P2:List AD:=[
 ⟨none,.p2 (AU Tryz.prog .add 3),[(.var 15),(.const (.int .i64 (1)))],.push,[]⟩,
 ⟨none,.p1 some,[.loc 0],(.set 15),[]⟩]
def Gf:Ai:=(.seq (.ops P5) (.seq (.cond (.var 16)
 .skip
 (.exit 0)) (.seq (.block 1 (.seq (.ops Pz) (.seq (.ops P0) (.ops P1)))) (.ops P2))))
def J1:List AD:=[
 ⟨none,.p1 Az,[.var 0],.push,[]⟩,
 ⟨none,.p1 (fun x=>AB Tryz.prog 62 x 0),[.loc 0],.push,[]⟩,
 ⟨none,.r1 (fun s a=>AO Tryz.prog s 59 a),[.loc 0],.push,[]⟩,
 ⟨none,.r1 (fun s a=>AO Tryz.prog s 70 a),[.var 9],.push,[]⟩,
 ⟨none,.mk (fun l=>(AW Tryz.prog 59 1 (zipIdx [0] l)).bind fun r=>some (r,.slice 1)),[.loc 0],.push,[]⟩,
 ⟨none,.e (fun s l=>As Tryz.prog s [59,59] l),[.loc 2,.loc 0],.push,[]⟩,
 ⟨none,.p1 Az,[.var 0],.push,[]⟩,
 ⟨none,.p1 (fun x=>AB Tryz.prog 62 x 0),[.loc 0],.push,[]⟩,
 ⟨none,.e (fun s=>Xs (fun a x=>Xu (BH Tryz.prog s 59 a x))),[.loc 0,.loc 2],.push,[]⟩]
def J2:List AD:=[
 ⟨none,.p1 Az,[.var 0],.push,[]⟩,
 ⟨none,.p1 (fun x=>AB Tryz.prog 62 x 1),[.loc 0],.push,[]⟩,
 ⟨none,.r1 (fun s a=>AO Tryz.prog s 60 a),[.loc 0],.push,[]⟩,
 ⟨none,.r1 (fun s a=>AO Tryz.prog s 65 a),[.var 4],.push,[]⟩,
 ⟨none,.p1 Az,[.var 0],.push,[]⟩,
 ⟨none,.p1 (fun x=>AB Tryz.prog 62 x 0),[.loc 0],.push,[]⟩,
 ⟨none,.r1 (fun s a=>AO Tryz.prog s 59 a),[.loc 0],.push,[]⟩,
 ⟨none,.r (fun s l=>match l with | [x]=>Ce Tryz.prog s 59 x | _=>none),[.loc 0],.push,[]⟩,
 ⟨none,.p2 (AU Tryz.prog .sub 3),[(.loc 0),(.const (.int .i64 (1)))],.push,[]⟩,
 ⟨none,.e (fun s=>Xt (fun m k x=>Xu (Br Tryz.prog s 60 m k x))),[.loc 6,.loc 5,.loc 0],.push,[]⟩]
def J3:List AD:=[
 ⟨none,.p1 Az,[.var 0],.push,[]⟩,
 ⟨none,.p1 (fun x=>AB Tryz.prog 62 x 0),[.loc 0],.push,[]⟩,
 ⟨none,.r1 (fun s a=>AO Tryz.prog s 59 a),[.loc 0],.push,[]⟩,
 ⟨none,.r (fun s l=>match l with | [x]=>Ce Tryz.prog s 59 x | _=>none),[.loc 0],.push,[]⟩,
 ⟨none,.p2 (AU Tryz.prog .sub 3),[(.loc 0),(.const (.int .i64 (1)))],.push,[]⟩,
 ⟨none,.p1 some,[.loc 0],(.set 6),[]⟩]
def Yx:BC:=⟨4,17,(.seq (.ops Uo) (.seq (.ops Up) (.seq (.seq (.ops Uq) (.seq (.ops P3) (.cond (.var 11)
 (.seq (.ops Ur) .ret)
 .skip))) (.seq (.ops Us) (.seq (.seq (.ops Ut) (.cond (.var 12)
 (.ops Uu)
 .skip)) (.seq (.seq (.ops P4) (.block 0 (.loop Gf))) (.seq (.ops J1) (.seq (.ops J2) (.seq (.ops J3) .ret))))))))),[((.var 6),none)]⟩
def Uv:List AD:=[
 ⟨none,.mk (fun l=>match l with | [v]=>FN 25 v | _=>none),[.var 0],(.set 3),[]⟩,
 ⟨none,.mk (fun l=>match l with | [v]=>FN 103 v | _=>none),[.var 2],(.set 4),[]⟩,
 ⟨none,.p1 some,[(.const (.int .i64 (0)))],(.set 5),[]⟩]
def Uw:List AD:=[
 ⟨none,.mk (fun l=>match l with | []=>(DH Tryz.prog 68).bind fun kt=>some (.map kt [],.map) | _=>none),[],.push,[]⟩,
 ⟨none,.mk (fun l=>match l with | []=>B2 Tryz.prog 68 | _=>none),[],(.set 6),[]⟩,
 ⟨none,.e (fun s=>Xs (fun a x=>Xu (BH Tryz.prog s 68 a x))),[.var 6,.loc 0],.push,[]⟩]
def Ux:List AD:=[
 ⟨none,.mk (fun l=>match l with | []=>B2 Tryz.prog 31 | _=>none),[],(.set 7),[]⟩]
def Uy:List AD:=[
 ⟨none,.p (fun l=>some (.func 56 (l.take 0) (l.drop 0))),[.var 6,.var 3,.var 4,.var 7],.push,[]⟩,
 ⟨none,.e (fun s=>Xs (fun a x=>Xu (BH Tryz.prog s 31 a x))),[.var 7,.loc 0],.push,[]⟩]
def Uz:List AD:=[
 ⟨none,.r1 (fun s a=>AO Tryz.prog s 31 a),[.var 7],.push,[]⟩,
 ⟨none,.callv,[.loc 0,.var 1],.push,[]⟩,
 ⟨none,.p1 some,[.loc 0],(.set 5),[]⟩]
def Yy:BC:=⟨3,8,(.seq (.ops Uv) (.seq (.ops Uw) (.seq (.ops Ux) (.seq (.ops Uy) (.seq (.ops Uz) .ret))))),[((.var 5),none)]⟩
def VM:List AD:=[
 ⟨none,.p1 some,[(.const (.int .i64 (0)))],(.set 5),[]⟩]
def VN:List AD:=[
 ⟨none,.r1 (fun s a=>AO Tryz.prog s 68 a),[.var 1],.push,[]⟩,
 ⟨none,.r (fun s=>Xs (fun m k=>Bp Tryz.prog s 68 m k true)),[.loc 0,.var 0],.push,[]⟩,
 ⟨none,.p1 (fun x=>Xv x 0),[.loc 0],.push,[]⟩,
 ⟨none,.p1 (fun x=>Xv x 1),[.loc 1],.push,[]⟩,
 ⟨none,.p1 some,[.loc 1],(.set 6),[]⟩,
 ⟨none,.p1 some,[.loc 0],(.set 7),[]⟩]
def VO:List AD:=[
 ⟨none,.p1 some,[.var 7],(.set 14),[]⟩]
def VP:List AD:=[
 ⟨none,.p1 some,[.var 6],(.set 5),[]⟩]
def VQ:List AD:=[
 ⟨none,.r1 (fun s a=>AO Tryz.prog s 25 a),[.var 2],.push,[]⟩,
 ⟨none,.p1 Az,[.loc 0],.push,[]⟩,
 ⟨none,.p1 (fun x=>AB Tryz.prog 62 x 0),[.loc 0],.push,[]⟩,
 ⟨none,.r1 (fun s a=>AO Tryz.prog s 59 a),[.loc 0],.push,[]⟩,
 ⟨none,.p2 (AQ Tryz.prog 59),[.loc 0,.var 0],.push,[]⟩,
 ⟨none,.r1 (fun s a=>AO Tryz.prog s 70 a),[.loc 0],.push,[]⟩,
 ⟨none,.mk (fun l=>match l with | []=>B2 Tryz.prog 70 | _=>none),[],(.set 8),[]⟩,
 ⟨none,.e (fun s=>Xs (fun a x=>Xu (BH Tryz.prog s 70 a x))),[.var 8,.loc 0],.push,[]⟩]
def VR:List AD:=[
 ⟨none,.p1 some,[.var 0],(.set 9),[]⟩]
def VS:List AD:=[
 ⟨none,.r1 (fun s a=>AO Tryz.prog s 103 a),[.var 3],.push,[]⟩,
 ⟨none,.r1 (fun s a=>AO Tryz.prog s 70 a),[.var 8],.push,[]⟩,
 ⟨none,.callv,[.loc 1,.var 0,.loc 0],.push,[]⟩,
 ⟨none,.p1 (fun x=>Xv x 0),[.loc 0],.push,[]⟩,
 ⟨none,.p1 (fun x=>Xv x 1),[.loc 1],.push,[]⟩,
 ⟨none,.p1 some,[.loc 1],(.set 10),[]⟩,
 ⟨none,.p1 some,[.loc 0],(.set 11),[]⟩]
def NV:List AD:=[
 ⟨none,.p1 some,[.var 11],(.set 15),[]⟩]
def VT:List AD:=[
 ⟨none,.p1 some,[.var 10],(.set 9),[]⟩]
def QK:List AD:=[
 ⟨none,.p1 (fun x=>AB Tryz.prog 70 x 2),[.var 8],.push,[]⟩,
 ⟨none,.r1 (fun s a=>AO Tryz.prog s 3 a),[.loc 0],.push,[]⟩,
 ⟨none,.p2 (AU Tryz.prog .gtr 3),[(.loc 0),(.const (.int .i64 (0)))],(.set 16),[]⟩]
def QE:List AD:=[
 ⟨none,.p1 some,[(.const (.slice none 0 (some 0)))],(.set 12),[]⟩]
def QF:List AD:=[
 ⟨none,.p1 (fun x=>AB Tryz.prog 70 x 0),[.var 8],.push,[]⟩,
 ⟨none,.p1 (fun x=>AB Tryz.prog 65 x 2),[.loc 0],.push,[]⟩,
 ⟨none,.p1 (fun x=>AB Tryz.prog 70 x 2),[.var 8],.push,[]⟩,
 ⟨none,.r1 (fun s a=>AO Tryz.prog s 3 a),[.loc 0],.push,[]⟩,
 ⟨none,.r (Ad Tryz.prog 44 false true false),[.loc 2,.loc 0],(.set 17),[]⟩,
 ⟨none,.r (fun s l=>match l with | [x]=>Ce Tryz.prog s 27 x | _=>none),[.var 17],(.set 18),[]⟩,
 ⟨none,.p1 some,[(.const (.int .i64 (0)))],(.set 19),[]⟩]
def MI:List AD:=[
 ⟨none,.p2 (AU Tryz.prog .lss 3),[.var 19,.var 18],(.set 20),[]⟩]
def QG:List AD:=[
 ⟨none,.p2 (AQ Tryz.prog 27),[.var 17,.var 19],.push,[]⟩,
 ⟨none,.r1 (fun s a=>AO Tryz.prog s 3 a),[.loc 0],.push,[]⟩,
 ⟨none,.p1 some,[.loc 0],(.set 13),[]⟩]
def QH:List AD:=[
 ⟨none,.p1 some,[.var 12],.push,[]⟩,
 ⟨none,.r1 (fun s a=>AO Tryz.prog s 31 a),[.var 4],.push,[]⟩,
 ⟨none,.callv,[.loc 0,.var 13],.push,[]⟩,
 ⟨none,.mk (fun l=>(AW Tryz.prog 27 1 (zipIdx [0] l)).bind fun r=>some (r,.slice 1)),[.loc 0],.push,[]⟩,
 ⟨none,.e (fun s l=>As Tryz.prog s [27,27] l),[.loc 3,.loc 0],.push,[]⟩,
 ⟨none,.p1 some,[.loc 0],(.set 12),[]⟩]
def QI:List AD:=[
 ⟨none,.p2 (AU Tryz.prog .add 3),[(.var 19),(.const (.int .i64 (1)))],.push,[]⟩,
 ⟨none,.p1 some,[.loc 0],(.set 19),[]⟩]
def H5:Ai:=(.seq (.ops MI) (.seq (.cond (.var 20)
 .skip
 (.exit 0)) (.seq (.block 1 (.seq (.ops QG) (.ops QH))) (.ops QI))))
def QJ:List AD:=[
 ⟨none,.r1 (fun s a=>AO Tryz.prog s 25 a),[.var 2],.push,[]⟩,
 ⟨none,.p1 (fun x=>AB Tryz.prog 70 x 0),[.var 8],.push,[]⟩,
 ⟨none,.p1 (fun x=>AB Tryz.prog 65 x 0),[.loc 0],.push,[]⟩,
 ⟨none,.r1 (fun s a=>AO Tryz.prog s 3 a),[.loc 0],.push,[]⟩,
 ⟨none,.p (fun l=>Ab Tryz.prog 65 (zipIdx [0] l)),[.loc 0],.push,[]⟩,
 ⟨none,.p (fun l=>Ab Tryz.prog 43 (zipIdx [] l)),[],.push,[]⟩,
 ⟨none,.call 32,[.loc 5,.loc 1,.loc 0,.var 12],.push,[]⟩,
 ⟨none,.p1 some,[.loc 0],(.set 9),[]⟩]
def MJ:List AD:=[
 ⟨none,.r1 (fun s a=>AO Tryz.prog s 68 a),[.var 1],.push,[]⟩,
 ⟨none,.e (fun s=>Xt (fun m k x=>Xu (Br Tryz.prog s 68 m k x))),[.loc 0,.var 0,.var 9],.push,[]⟩]
def MK:List AD:=[
 ⟨none,.p1 some,[.var 9],(.set 5),[]⟩]
def Y4:BC:=⟨5,21,(.seq (.ops VM) (.seq (.seq (.ops VN) (.seq (.ops VO) (.cond (.var 14)
 (.seq (.ops VP) .ret)
 .skip))) (.seq (.ops VQ) (.seq (.ops VR) (.seq (.seq (.ops VS) (.seq (.ops NV) (.cond (.var 15)
 (.ops VT)
 (.seq (.ops QK) (.cond (.var 16)
 (.seq (.ops QE) (.seq (.seq (.ops QF) (.block 0 (.loop H5))) (.ops QJ)))
 .skip))))) (.seq (.ops MJ) (.seq (.ops MK) .ret))))))),[((.var 5),none)]⟩
def U0:List AD:=[
 ⟨none,.p1 some,[(.const (.slice none 0 (some 0)))],(.set 2),[]⟩]
def U1:List AD:=[
 ⟨none,.call 10,[.var 0],.push,[]⟩,
 ⟨none,.p1 some,[.loc 0],(.set 3),[]⟩]
def U2:List AD:=[
 ⟨none,.call 43,[.var 1],.push,[]⟩,
 ⟨none,.p1 some,[.loc 0],(.set 4),[]⟩]
def U3:List AD:=[
 ⟨none,.p1 some,[.var 4],(.set 7),[]⟩,
 ⟨none,.r (fun s l=>match l with | [x]=>Ce Tryz.prog s 27 x | _=>none),[.var 7],(.set 8),[]⟩,
 ⟨none,.p1 some,[(.const (.int .i64 (0)))],(.set 9),[]⟩]
def K1:List AD:=[
 ⟨none,.p2 (AU Tryz.prog .lss 3),[.var 9,.var 8],(.set 10),[]⟩]
def NN:List AD:=[
 ⟨none,.p2 (AQ Tryz.prog 27),[.var 7,.var 9],.push,[]⟩,
 ⟨none,.r1 (fun s a=>AO Tryz.prog s 3 a),[.loc 0],.push,[]⟩,
 ⟨none,.p1 some,[.var 9],(.set 5),[]⟩,
 ⟨none,.p1 some,[.loc 0],(.set 6),[]⟩]
def NO:List AD:=[
 ⟨none,.p2 (AU Tryz.prog .lss 3),[(.var 6),(.const (.int .i64 (0)))],.push,[]⟩,
 ⟨(some ((.loc 0),false)),.p1 some,[.var 6],.push,[]⟩,
 ⟨(some ((.loc 1),false)),.p1 some,[.var 3],.push,[]⟩,
 ⟨(some ((.loc 2),false)),.p2 (AU Tryz.prog .geq 3),[.loc 1,.loc 0],.push,[]⟩,
 ⟨none,.p Rn,[(.loc 3),(.const (.bool true)),(.loc 0)],(.set 11),[]⟩]
def P7:List AD:=[
 ⟨none,.p (fun l=>Ab Tryz.prog 43 (zipIdx [] l)),[],.push,[]⟩,
 ⟨none,.call 22,[.var 0,.loc 0],.push,[]⟩,
 ⟨none,.p2 (AQ Tryz.prog 27),[.var 4,.var 5],.push,[]⟩,
 ⟨none,.e (fun s=>Xs (fun a x=>Xu (BH Tryz.prog s 3 a x))),[.loc 0,.loc 1],.push,[]⟩]
def NP:List AD:=[
 ⟨none,.p2 (AU Tryz.prog .add 3),[(.var 9),(.const (.int .i64 (1)))],.push,[]⟩,
 ⟨none,.p1 some,[.loc 0],(.set 9),[]⟩]
def H4:Ai:=(.seq (.ops K1) (.seq (.cond (.var 10)
 .skip
 (.exit 0)) (.seq (.block 1 (.seq (.ops NN) (.seq (.ops NO) (.cond (.var 11)
 (.ops P7)
 .skip)))) (.ops NP))))
def P6:List AD:=[
 ⟨none,.p1 some,[.var 4],(.set 2),[]⟩]
def Yz:BC:=⟨2,12,(.seq (.ops U0) (.seq (.ops U1) (.seq (.ops U2) (.seq (.seq (.ops U3) (.block 0 (.loop H4))) (.seq (.ops P6) .ret))))),[((.var 2),none)]⟩
def K3:List AD:=[
 ⟨none,.mk (fun l=>match l with | []=>B2 Tryz.prog 70 | _=>none),[],(.set 2),[]⟩]
def K4:List AD:=[
 ⟨none,.p2 (AU Tryz.prog .eql 25),[(.var 0),(.const (.ptr none))],.push,[]⟩,
 ⟨none,.p1 some,[.loc 0],(.set 3),[]⟩]
def VE:List AD:=[
 ⟨none,.p (fun l=>Ab Tryz.prog 70 (zipIdx [] l)),[],.push,[]⟩,
 ⟨none,.e (fun s=>Xs (fun a x=>Xu (BH Tryz.prog s 70 a x))),[.var 2,.loc 0],.push,[]⟩]
def NS:List AD:=[
 ⟨none,.p2 (AU Tryz.prog .lss 3),[(.var 1),(.const (.int .i64 (0)))],.push,[]⟩,
 ⟨(some ((.loc 0),false)),.p1 some,[.var 1],.push,[]⟩,
 ⟨(some ((.loc 1),false)),.p1 some,[.var 0],.push,[]⟩,
 ⟨(some ((.loc 2),false)),.p1 Az,[.loc 0],.push,[]⟩,
 ⟨(some ((.loc 3),false)),.p1 (fun x=>AB Tryz.prog 62 x 0),[.loc 0],.push,[]⟩,
 ⟨(some ((.loc 4),false)),.r1 (fun s a=>AO Tryz.prog s 59 a),[.loc 0],.push,[]⟩,
 ⟨(some ((.loc 5),false)),.r (fun s l=>match l with | [x]=>Ce Tryz.prog s 59 x | _=>none),[.loc 0],.push,[]⟩,
 ⟨(some ((.loc 6),false)),.p2 (AU Tryz.prog .geq 3),[.loc 5,.loc 0],.push,[]⟩,
 ⟨none,.p Rn,[(.loc 7),(.const (.bool true)),(.loc 0)],.push,[]⟩,
 ⟨none,.p1 some,[.loc 0],(.set 4),[]⟩]
def QC:List AD:=[
 ⟨none,.call 60,[],.push,[]⟩,
 ⟨none,.e (fun s=>Xs (fun a x=>Xu (BH Tryz.prog s 70 a x))),[.var 2,.loc 0],.push,[]⟩]
def VF:List AD:=[
 ⟨none,.p1 Az,[.var 0],.push,[]⟩,
 ⟨none,.p1 (fun x=>AB Tryz.prog 62 x 0),[.loc 0],.push,[]⟩,
 ⟨none,.r1 (fun s a=>AO Tryz.prog s 59 a),[.loc 0],.push,[]⟩,
 ⟨none,.p2 (AQ Tryz.prog 59),[.loc 0,.var 1],.push,[]⟩,
 ⟨none,.r1 (fun s a=>AO Tryz.prog s 70 a),[.loc 0],.push,[]⟩,
 ⟨none,.e (fun s=>Xs (fun a x=>Xu (BH Tryz.prog s 70 a x))),[.var 2,.loc 0],.push,[]⟩]
def XK:BC:=⟨2,5,(.seq (.ops K3) (.seq (.block 0 (.seq (.ops K4) (.cond (.var 3)
 (.seq (.ops VE) .ret)
 (.seq (.ops NS) (.cond (.var 4)
 (.seq (.ops QC) .ret)
 .skip))))) (.seq (.ops VF) .ret))),[((.var 2),some 70)]⟩
def VU:List AD:=[
 ⟨none,.mk (fun l=>match l with | []=>B2 Tryz.prog 70 | _=>none),[],(.set 0),[]⟩]
def VV:List AD:=[
 ⟨none,.p (fun l=>Ab Tryz.prog 43 (zipIdx [] l)),[],.push,[]⟩,
 ⟨none,.call 30,[.loc 0],.push,[]⟩,
 ⟨none,.p (fun l=>Ab Tryz.prog 65 (zipIdx [0,3] l)),[(.const (.int .i64 (2))),(.loc 0)],.push,[]⟩,
 ⟨none,.p (fun l=>Ab Tryz.prog 70 (zipIdx [0,3] l)),[(.loc 0),(.const (.int .i64 (1)))],.push,[]⟩,
 ⟨none,.e (fun s=>Xs (fun a x=>Xu (BH Tryz.prog s 70 a x))),[.var 0,.loc 0],.push,[]⟩]
def Y5:BC:=⟨0,1,(.seq (.ops VU) (.seq (.ops VV) .ret)),[((.var 0),some 70)]⟩
def U4:List AD:=[
 ⟨none,.mk (fun l=>match l with | [v]=>FN 70 v | _=>none),[.var 1],(.set 4),[]⟩,
 ⟨none,.p1 some,[(.const (.int .i64 (0)))],(.set 5),[]⟩,
 ⟨none,.p1 some,[(.const (.bool false))],(.set 6),[]⟩]
def U5:List AD:=[
 ⟨none,.r1 (fun s a=>AO Tryz.prog s 27 a),[.var 2],.push,[]⟩,
 ⟨none,.p1 (fun x=>AB Tryz.prog 70 x 0),[.var 4],.push,[]⟩,
 ⟨none,.p1 (fun x=>AB Tryz.prog 65 x 1),[.loc 0],.push,[]⟩,
 ⟨none,.r1 (fun s a=>AO Tryz.prog s 3 a),[.loc 0],.push,[]⟩,
 ⟨none,.call 36,[.loc 3,.loc 0],.push,[]⟩,
 ⟨none,.p1 some,[.loc 0],(.set 7),[]⟩]
def K2:List AD:=[
 ⟨none,.p1 (fun x=>AB Tryz.prog 70 x 0),[.var 4],.push,[]⟩,
 ⟨none,.p1 (fun x=>AB Tryz.prog 65 x 0),[.loc 0],.push,[]⟩,
 ⟨none,.r1 (fun s a=>AO Tryz.prog s 3 a),[.loc 0],.push,[]⟩,
 ⟨none,.p2 (AU Tryz.prog .eql 3),[(.loc 0),(.const (.int .i64 (1)))],.push,[]⟩,
 ⟨none,.p1 some,[.loc 0],(.set 8),[]⟩]
def U6:List AD:=[
 ⟨none,.r1 (fun s a=>AO Tryz.prog s 25 a),[.var 3],.push,[]⟩,
 ⟨none,.p1 (fun x=>AB Tryz.prog 70 x 0),[.var 4],.push,[]⟩,
 ⟨none,.p1 (fun x=>AB Tryz.prog 65 x 1),[.loc 0],.push,[]⟩,
 ⟨none,.r1 (fun s a=>AO Tryz.prog s 3 a),[.loc 0],.push,[]⟩,
 ⟨none,.r1 (fun s a=>AO Tryz.prog s 27 a),[.var 2],.push,[]⟩,
 ⟨none,.r (fun s l=>match l with | [x]=>Ce Tryz.prog s 27 x | _=>none),[.loc 0],.push,[]⟩,
 ⟨none,.p2 (AU Tryz.prog .add 3),[.loc 2,.loc 0],.push,[]⟩,
 ⟨none,.call 21,[.loc 6,.loc 0],.push,[]⟩,
 ⟨none,.p1 some,[.loc 0],(.set 5),[]⟩,
 ⟨none,.p1 some,[(.const (.bool true))],(.set 6),[]⟩]
def NQ:List AD:=[
 ⟨none,.p1 (fun x=>AB Tryz.prog 70 x 0),[.var 4],.push,[]⟩,
 ⟨none,.p1 (fun x=>AB Tryz.prog 65 x 0),[.loc 0],.push,[]⟩,
 ⟨none,.r1 (fun s a=>AO Tryz.prog s 3 a),[.loc 0],.push,[]⟩,
 ⟨none,.p2 (AU Tryz.prog .eql 3),[(.loc 0),(.const (.int .i64 (0)))],.push,[]⟩,
 ⟨(some ((.loc 0),true)),.p1 some,[.var 7],.push,[]⟩,
 ⟨(some ((.loc 1),true)),.p2 (AU Tryz.prog .geq 3),[(.loc 0),(.const (.int .i64 (0)))],.push,[]⟩,
 ⟨none,.p Rn,[(.loc 2),(.loc 0),(.const (.bool false))],.push,[]⟩,
 ⟨none,.p1 some,[.loc 0],(.set 9),[]⟩]
def U7:List AD:=[
 ⟨none,.r1 (fun s a=>AO Tryz.prog s 25 a),[.var 3],.push,[]⟩,
 ⟨none,.call 21,[.loc 0,.var 7],.push,[]⟩,
 ⟨none,.p1 some,[.loc 0],(.set 5),[]⟩,
 ⟨none,.p1 some,[(.const (.bool true))],(.set 6),[]⟩]
def P8:List AD:=[
 ⟨none,.p1 some,[.var 0],(.set 5),[]⟩,
 ⟨none,.p1 some,[(.const (.bool false))],(.set 6),[]⟩]
def Y0:BC:=⟨4,10,(.seq (.ops U4) (.seq (.ops U5) (.seq (.block 0 (.seq (.ops K2) (.cond (.var 8)
 (.seq (.ops U6) .ret)
 (.seq (.ops NQ) (.cond (.var 9)
 (.seq (.ops U7) .ret)
 .skip))))) (.seq (.ops P8) .ret)))),[((.var 5),none),((.var 6),none)]⟩
def NT:List AD:=[
 ⟨none,.mk (fun l=>match l with | [v]=>FN 70 v | _=>none),[.var 1],(.set 4),[]⟩,
 ⟨none,.p1 some,[(.const (.int .i64 (0)))],(.set 5),[]⟩,
 ⟨none,.p1 some,[(.const (.bool false))],(.set 6),[]⟩]
def NU:List AD:=[
 ⟨none,.p1 (fun x=>AB Tryz.prog 70 x 0),[.var 4],.push,[]⟩,
 ⟨none,.p1 (fun x=>AB Tryz.prog 65 x 0),[.loc 0],.push,[]⟩,
 ⟨none,.r1 (fun s a=>AO Tryz.prog s 3 a),[.loc 0],.push,[]⟩,
 ⟨none,.p2 (AU Tryz.prog .neq 3),[(.loc 0),(.const (.int .i64 (1)))],.push,[]⟩,
 ⟨none,.p1 some,[.loc 0],(.set 7),[]⟩]
def VG:List AD:=[
 ⟨none,.p1 some,[.var 0],(.set 5),[]⟩,
 ⟨none,.p1 some,[(.const (.bool false))],(.set 6),[]⟩]
def QD:List AD:=[
 ⟨none,.p1 (fun x=>AB Tryz.prog 70 x 0),[.var 4],.push,[]⟩,
 ⟨none,.p1 (fun x=>AB Tryz.prog 65 x 1),[.loc 0],.push,[]⟩,
 ⟨none,.r1 (fun s a=>AO Tryz.prog s 3 a),[.loc 0],.push,[]⟩,
 ⟨none,.r1 (fun s a=>AO Tryz.prog s 27 a),[.var 2],.push,[]⟩,
 ⟨none,.r (fun s l=>match l with | [x]=>Ce Tryz.prog s 27 x | _=>none),[.loc 0],.push,[]⟩,
 ⟨none,.p2 (AU Tryz.prog .lss 3),[.loc 2,.loc 0],.push,[]⟩,
 ⟨none,.p1 some,[.loc 0],(.set 8),[]⟩]
def VH:List AD:=[
 ⟨none,.r1 (fun s a=>AO Tryz.prog s 27 a),[.var 2],.push,[]⟩,
 ⟨none,.p1 (fun x=>AB Tryz.prog 70 x 0),[.var 4],.push,[]⟩,
 ⟨none,.p1 (fun x=>AB Tryz.prog 65 x 1),[.loc 0],.push,[]⟩,
 ⟨none,.r1 (fun s a=>AO Tryz.prog s 3 a),[.loc 0],.push,[]⟩,
 ⟨none,.p2 (AQ Tryz.prog 27),[.loc 3,.loc 0],.push,[]⟩,
 ⟨none,.r1 (fun s a=>AO Tryz.prog s 3 a),[.loc 0],.push,[]⟩,
 ⟨none,.p1 some,[.loc 0],(.set 5),[]⟩,
 ⟨none,.p1 some,[(.const (.bool true))],(.set 6),[]⟩]
def VI:List AD:=[
 ⟨none,.r1 (fun s a=>AO Tryz.prog s 25 a),[.var 3],.push,[]⟩,
 ⟨none,.p1 (fun x=>AB Tryz.prog 70 x 0),[.var 4],.push,[]⟩,
 ⟨none,.p1 (fun x=>AB Tryz.prog 65 x 1),[.loc 0],.push,[]⟩,
 ⟨none,.r1 (fun s a=>AO Tryz.prog s 3 a),[.loc 0],.push,[]⟩,
 ⟨none,.r1 (fun s a=>AO Tryz.prog s 27 a),[.var 2],.push,[]⟩,
 ⟨none,.r (fun s l=>match l with | [x]=>Ce Tryz.prog s 27 x | _=>none),[.loc 0],.push,[]⟩,
 ⟨none,.p2 (AU Tryz.prog .sub 3),[.loc 2,.loc 0],.push,[]⟩,
 ⟨none,.call 21,[.loc 6,.loc 0],.push,[]⟩,
 ⟨none,.p1 some,[.loc 0],(.set 5),[]⟩,
 ⟨none,.p1 some,[(.const (.bool true))],(.set 6),[]⟩]
def YC:BC:=⟨4,9,(.seq (.ops NT) (.seq (.block 0 (.seq (.ops NU) (.cond (.var 7)
 (.seq (.ops VG) .ret)
 (.seq (.ops QD) (.cond (.var 8)
 (.seq (.ops VH) .ret)
 .skip))))) (.seq (.ops VI) .ret))),[((.var 5),none),((.var 6),none)]⟩
def U8:List AD:=[
 ⟨none,.p1 some,[(.const (.int .i64 (0)))],(.set 2),[]⟩]
def U9:List AD:=[
 ⟨none,.r (fun s l=>match l with | [x]=>Ce Tryz.prog s 27 x | _=>none),[.var 0],(.set 4),[]⟩,
 ⟨none,.p1 some,[(.const (.int .i64 (0)))],(.set 5),[]⟩]
def NR:List AD:=[
 ⟨none,.p2 (AU Tryz.prog .lss 3),[.var 5,.var 4],(.set 6),[]⟩]
def P9:List AD:=[
 ⟨none,.p1 some,[.var 5],(.set 3),[]⟩]
def QA:List AD:=[
 ⟨none,.p2 (AQ Tryz.prog 27),[.var 0,.var 3],.push,[]⟩,
 ⟨none,.r1 (fun s a=>AO Tryz.prog s 3 a),[.loc 0],.push,[]⟩,
 ⟨none,.p2 (AU Tryz.prog .eql 3),[.var 1,.loc 0],(.set 7),[]⟩]
def VA:List AD:=[
 ⟨none,.p1 some,[.var 3],(.set 2),[]⟩]
def VB:List AD:=[
 ⟨none,.p2 (AU Tryz.prog .add 3),[(.var 5),(.const (.int .i64 (1)))],.push,[]⟩,
 ⟨none,.p1 some,[.loc 0],(.set 5),[]⟩]
def JK:Ai:=(.seq (.ops NR) (.seq (.cond (.var 6)
 .skip
 (.exit 0)) (.seq (.block 1 (.seq (.ops P9) (.seq (.ops QA) (.cond (.var 7)
 (.seq (.ops VA) .ret)
 .skip)))) (.ops VB))))
def QB:List AD:=[
 ⟨none,.p1 some,[(.const (.int .i64 (-1)))],(.set 2),[]⟩]
def Y1:BC:=⟨2,8,(.seq (.ops U8) (.seq (.seq (.ops U9) (.block 0 (.loop JK))) (.seq (.ops QB) .ret))),[((.var 2),none)]⟩
def VC:List AD:=[
 ⟨none,.mk (fun l=>match l with | [v]=>FN 68 v | _=>none),[.var 0],(.set 1),[]⟩,
 ⟨none,.p1 some,[(.const .nilFunc)],(.set 2),[]⟩]
def VD:List AD:=[
 ⟨none,.p (fun l=>some (.func 59 (l.take 0) (l.drop 0))),[.var 1],.push,[]⟩,
 ⟨none,.p1 some,[.loc 0],(.set 2),[]⟩]
def Y2:BC:=⟨1,3,(.seq (.ops VC) (.seq (.ops VD) .ret)),[((.var 2),none)]⟩
def VJ:List AD:=[
 ⟨none,.p1 some,[(.const (.slice none 0 (some 0)))],(.set 1),[]⟩]
def VK:List AD:=[
 ⟨none,.p2 (AU Tryz.prog .eql 27),[(.var 0),(.const (.slice none 0 (some 0)))],(.set 2),[]⟩]
def XL:List AD:=[
 ⟨none,.p1 some,[(.const (.slice none 0 (some 0)))],(.set 1),[]⟩]
def VL:List AD:=[
 ⟨none,.mk (fun l=>(AW Tryz.prog 27 0 (zipIdx [] l)).bind fun r=>some (r,.slice 0)),[],.push,[]⟩,
 ⟨none,.e (fun s l=>As Tryz.prog s [27,27] l),[.loc 0,.var 0],.push,[]⟩,
 ⟨none,.p1 some,[.loc 0],(.set 1),[]⟩]
def Y3:BC:=⟨1,3,(.seq (.ops VJ) (.seq (.seq (.ops VK) (.cond (.var 2)
 (.seq (.ops XL) .ret)
 .skip)) (.seq (.ops VL) .ret))),[((.var 1),none)]⟩
theorem QU:AT Tryz.prog 10=some YJ:=by kernel_rfl
theorem QV:AT Tryz.prog 11=some YK:=by kernel_rfl
theorem Vq:AT Tryz.prog 12=some Yp:=by kernel_rfl
theorem Vr:AT Tryz.prog 13=some Yq:=by kernel_rfl
theorem QW:AT Tryz.prog 14=some YL:=by kernel_rfl
theorem MN:AT Tryz.prog 15=some YB:=by kernel_rfl
theorem Vs:AT Tryz.prog 18=some Yr:=by kernel_rfl
theorem QX:AT Tryz.prog 19=some YM:=by kernel_rfl
theorem Vt:AT Tryz.prog 21=some Ys:=by kernel_rfl
theorem QY:AT Tryz.prog 22=some YN:=by kernel_rfl
theorem Vu:AT Tryz.prog 23=some Yt:=by kernel_rfl
theorem Vv:AT Tryz.prog 24=some Yu:=by kernel_rfl
theorem Vw:AT Tryz.prog 25=some Yv:=by kernel_rfl
theorem J5:AT Tryz.prog 26=some XJ:=by kernel_rfl
theorem Vx:AT Tryz.prog 28=some Yw:=by kernel_rfl
theorem Vy:AT Tryz.prog 32=some Yx:=by kernel_rfl
theorem Vz:AT Tryz.prog 33=some Yy:=by kernel_rfl
theorem V6:AT Tryz.prog 56=some Y4:=by kernel_rfl
theorem V0:AT Tryz.prog 34=some Yz:=by kernel_rfl
theorem MO:AT Tryz.prog 39=some XK:=by kernel_rfl
theorem V7:AT Tryz.prog 60=some Y5:=by kernel_rfl
theorem V1:AT Tryz.prog 35=some Y0:=by kernel_rfl
theorem V4:AT Tryz.prog 40=some YC:=by kernel_rfl
theorem V2:AT Tryz.prog 36=some Y1:=by kernel_rfl
theorem V3:AT Tryz.prog 38=some Y2:=by kernel_rfl
theorem V5:AT Tryz.prog 43=some Y3:=by kernel_rfl
end
end Go.Proofs.YtickdehehcmfbaaGreatDoor.Am
set_option linter.unusedVariables false
set_option linter.unusedSimpArgs false
namespace Go.Proofs.YtickdehehcmfbaaGreatDoor.Am
open Go Go.Proofs
noncomputable section
structure A0(E:Bt):Prop where
 P:E.P=Tryz.prog
 nat:∀ (f:FuncId) (xs:List AV) (s:AE),f ∉ [44,30,45,127,109,7,55,37,46,29]→E.nat f xs s=none
 tab:∀ (f:FuncId) (xs:List AV) (s:AE) (p:AV×AE),Dq f xs s=some p→E.nat f xs s=some p
theorem A0.go{E:Bt}(hE:A0 E){f:FuncId}{xs:List AV}{cf:BC}{K:AV→AE→Prop}{s:AE}(hf:AT Tryz.prog f=some cf)(hne:f ∉ [44,30,45,127,109,7,55,37,46,29])(ha:xs.length=cf.na)(h:Qa E none cf.body (Ends Tryz.prog cf.results K) (Ql xs cf.nv) [] s):WF E f xs K s:=
 WF.body' (hE.nat f xs s hne) (by rw[hE.P];exact hf) ha (by rw[hE.P];exact h)
theorem WF.native{E:Bt}{f:FuncId}{xs:List AV}{K:AV→AE→Prop}{s s':AE}{v:AV}(h:E.nat f xs s=some (v,s'))(k:K v s'):WF E f xs K s:=by
 refine⟨1,(v,s'),?_,k⟩
 show Ff E _ f xs s=_
 unfold Ff
 rw[h]
def A7(S:List Tm)(t:Tm)(m:Nat):List AV:=BB S t++t.cells++[iv (t.kids.length:Int),iv (t.sz:Int),.map (some m)]
theorem OY:∀a,a<13→(Eg.getD a ([],Tm.nullC)).2.length=7:=by decide
theorem Dg{t:Tm}(h:t.ok):t.cells.length=7:=by
 cases t<;>first | rfl | exact OY _ h
theorem D4{S:List Tm}{t:Tm}{m:Nat}(h:t.ok):(A7 S t m).length=16:=by
 simp[A7,BB,Dg h]
def Dl(S:List Tm):List Tm→List Nat→List AV
 | t::l,m::vm=>A7 S t m++Dl S l vm
 | _,_=>[]
theorem FU{S:List Tm}{u:Tm}{m:Nat}:∀ (l:List Tm)(vm:List Nat),l.length=vm.length→(∀t∈l,∀k∈t.kids,k∈S)→(∀k∈u.kids,k∈S) →
  Dl (S++[u]) (l++[u]) (vm++[m])=Dl S l vm++A7 S u m
 | [],[],_,_,hu=>by simp only[ZD,Dl,A7,Cl [u] hu,List.append_nil,ZD]
 | t::l,n::vm,h,hl,hu=>by
  simp only[ZE,Dl,Zk]
  rw[FU l vm (by simpa using h) (fun x hx=>hl x (ZQ _ hx)) hu]
  simp only[A7,Cl [u] (hl t ZU),Zk]
theorem IA{S:List Tm}:∀ {l:List Tm}{vm:List Nat},vm.length=l.length→(∀t∈l,t.ok)→(Dl S l vm).length=l.length * 16
 | [],[],_,_=>rfl
 | t::l,m::vm,h,ho=>by
  simp only[Dl,Ze,ZC,D4 (ho t ZU)]
  rw[IA (by simpa using h) (fun x hx=>ho x (ZQ _ hx))]
  omega
theorem JL{S:List Tm}:∀ {l:List Tm}{vm:List Nat},vm.length=l.length→(∀t∈l,t.ok)→∀ {i:Nat}{t:Tm}{m:Nat},l[i]? = some t→vm[i]? = some m→∀j,j<16→(Dl S l vm)[i * 16+j]? = (A7 S t m)[j]?
 | [],[],_,_,i,t,m,h,_,_,_=>by simp at h
 | t::l,m::vm,hl,ho,i,t',m',h,k,j,hj=>by
  have hlen:=D4 (S:=S) (m:=m) (ho t ZU)
  simp only[Dl]
  cases i with
  | zero =>
   simp at h k
   subst h;subst k
   rw[Zb (by omega)]
   congr 1;omega
  | succ i =>
   rw[Zc (by omega),hlen,show(i+1) * 16+j - 16=i * 16+j from by omega]
   exact JL (by simpa using hl) (fun x hx=>ho x (ZQ _ hx)) (by simpa using h) (by simpa using k) j hj
def Hx(s:AE)(m:Nat)(t:Tm):Prop:=∃ks:List Int,s.heap.get m=some (.map 3 (A5 ks))∧ks.Nodup∧(∀x,x∈ks↔t.has x=true)∧ks.length≤100000
structure EE(s:AE)(p:Nat)(S:List Tm)(O:List Nat)(tv:AV)(fi:Nat)(vm OT:List Nat):Prop where
 obj:s.heap.get p=some (R 62 0 false [tv,.map (some fi)])
 buf:F3 70 16 s tv S.length (Dl S S vm) OT
 fnd:s.heap.get fi=some (.map 65 (CJ S))
 vml:vm.length=S.length
 vars:∀ (i:Nat) (t:Tm) (m:Nat),S[i]? = some t→vm[i]? = some m→Hx s m t∧m<s.next∧m ∉ p::fi::OT
 eq:O=p::fi::(OT++vm)
 plt:p<s.next
 flt:fi<s.next
 pf:p≠fi
 pO:p ∉ OT
 fO:fi ∉ OT
structure AN(s:AE)(p:Nat)(S:List Tm)(O:List Nat):Prop where
 ok:I5 S
 small:S.length≤100000
 ex:∃tv fi vm OT,EE s p S O tv fi vm OT
def C2(O:List Nat)(s s':AE):Prop:=s.next≤s'.next∧∀j,j<s.next→j ∉ O→s'.heap.get j=s.heap.get j
theorem C2.refl(O:List Nat)(s:AE):C2 O s s:=⟨Y9 _,fun _ _ _=>rfl⟩
def Ac(O O':List Nat)(s:AE):Prop:=∀j∈O',j∈O∨s.next≤j
theorem Ac.refl(O:List Nat)(s:AE):Ac O O s:=fun _ h=>.inl h
theorem C2.trans{O O':List Nat}{s s1 s2:AE}(h:C2 O s s1)(k:C2 O' s1 s2)(hO:Ac O O' s):C2 O s s2:=
 ⟨Za h.1 k.1,fun j hj hn=>(k.2 j (ZS hj h.1) (fun hm=>(hO j hm).elim hn (fun hl=>by omega))).trans (h.2 j hj hn)⟩
theorem Ac.trans{O O1 O2:List Nat}{s s1:AE}(h:Ac O O1 s)(k:Ac O1 O2 s1)(hn:s.next≤s1.next):Ac O O2 s:=fun j hj =>
 (k j hj).elim (h j) (fun hl=>.inr (Za hn hl))
theorem Hx.frame{s s':AE}{m:Nat}{t:Tm}(h:Hx s m t)(e:s'.heap.get m=s.heap.get m):Hx s' m t:=by
 obtain⟨ks,h1,h2⟩:=h
 exact⟨ks,by rw[e];exact h1,h2⟩
theorem EE.lt      {s : AE}  {p : Nat} {S : List Tm} {O : List Nat} {tv : AV} {fi : Nat} {vm OT : List Nat} (h : EE      s p S O tv fi vm OT) : ∀ j ∈ O, j < s.next := by
  intro j hj
  rw[h.eq]at hj
  rcases Zd.1 hj with rfl | hj
  · exact h.plt
  · rcases Zd.1            hj with rfl | hj
    · exact h.flt
    · rcases List.mem_append.1 hj with hj | hj
      · exact h.buf.lt j hj
      · obtain⟨i,hi,he⟩:=List.mem_iff_getElem.1 hj
        have hiS:i<S.length:=by rw[← h.vml];exact hi
        exact(h.vars i S[i] j (ZP hiS) (by rw[← he];exact ZP hi)).2.1
theorem AN.lt{s:AE}{p:Nat}{S:List Tm}{O:List Nat}(h:AN s p S O):∀j∈O,j<s.next:=let ⟨_,_,_,_,h⟩:=h.ex;h.lt
theorem AN.frame{s s':AE}{p:Nat}{S:List Tm}{O:List Nat}(h:AN s p S O)(hn:s.next≤s'.next)(k:∀j∈O,s'.heap.get j=s.heap.get j):AN s' p S O:=by
 obtain⟨tv,fi,vm,OT,e⟩:=h.ex
 have hp:p∈O:=by rw[e.eq];simp
 have hf:fi∈O:=by rw[e.eq];simp
 have hT:∀j∈OT,j∈O:=fun j hj=>by rw[e.eq];simp[hj]
 have hv:∀j∈vm,j∈O:=fun j hj=>by rw[e.eq];simp[hj]
 refine⟨h.ok,h.small,tv,fi,vm,OT,?_,?_,?_,e.vml,?_,e.eq,ZS e.plt hn,ZS e.flt hn,e.pf,e.pO,e.fO⟩
 ·rw[k p hp];exact e.obj
 ·exact e.buf.frame hn fun j hj=>k j (hT j hj)
 ·rw[k fi hf];exact e.fnd
 ·intro i t m hi hm
  obtain⟨k1,k2,k3⟩:=e.vars i t m hi hm
  exact⟨k1.frame (k m (hv m (ZZ hm))),ZS k2 hn,k3⟩
theorem AN.old{s s':AE}{p:Nat}{S:List Tm}{O:List Nat}(h:AN s p S O)(k:B7 s.next s s'):AN s' p S O:=
 h.frame k.1 fun j hj=>k.2 j (h.lt j hj)
section
variable{s:AE}{p:Nat}{S:List Tm}{O:List Nat}{tv:AV}{fi:Nat}{vm OT:List Nat}
theorem EE.entry      (h : EE      s p S O tv fi vm OT) (hs : I5  S) {i : Nat} {t : Tm} (hi : S[i]? = some t) :
    ∃m j r,vm[i]? = some m∧tv=.slice (some (j,0)) S.length none∧j∈O∧s.heap.get j=some (.row r)∧Bs (some (.row r)) (i * 16) 16=some (A7 S t m)∧∀k,k<16→Cz (some (.row r)) (i * 16+k)=(A7 S t m)[k]? := by
  have hil:i<S.length:=by
    rcases ZO i S.length with h' | h'
    · exact h'
    · rw[ZT h']at hi;cases hi
  have him:i<vm.length:=by rw[h.vml];exact hil
  have hm:vm[i]? = some vm[i]:=ZP (by rw[h.vml];exact hil)
  have hlen:=IA (S:=S) h.vml hs.ok
  have hat:=JL (S:=S) h.vml hs.ok hi hm
  have hel:=D4 (S:=S) (m:=vm[i]) (hs.ok t (ZZ hi))
  rcases h.buf.row with⟨_,h0,_⟩ | ⟨j,r,h1,h2,h3,h4⟩
  · omega
  · refine ⟨vm[i], j, r, hm, h1, by rw [h.eq]; simp [h2], h3, ?_, fun k hk => ?_⟩
    · rw[Hi h4 (by rw[hlen];omega)]
      congr 1
      apply List.ext_getElem?
      intro k
      by_cases hk:k<16
      · rw[Zy hk,Z1]
        exact hat k hk
      · rw[ZT (by simp;omega),ZT (by omega)]
    · have hk2:(A7 S t vm[i])[k]? = some (A7 S t vm[i])[k]:=ZP (by omega)
      rw[hk2]
      exact WH h4 (by rw[hat k hk];exact hk2)
theorem Fo{α:Type}:∀ {l m:List α},l.Nodup→(∀x∈l,x∈m)→l.length≤m.length
 | [],_,_,_=>ZW _
 | a::l,m,hn,h=>by
  obtain⟨m1,m2,rfl⟩:=List.append_of_mem (h a ZU)
  simp only[Zn]at hn
  have:=Fo (m:=m1++m2) hn.2 fun x hx=>by
   have:=h x (ZQ _ hx)
   simp only[List.mem_append,Zd]at this ⊢
   rcases this with h' | h' | h'
   ·exact .inl h'
   ·subst h';exact absurd hx hn.1
   ·exact .inr h'
  simp at this ⊢;omega
theorem E8{S:List Tm}(hs:I5 S){x:Int}:∀ (t:Tm),t∈S→t.has x=true→Tm.var x∈S
 | .var i,ht,h=>by simp[Tm.has]at h;subst h;exact ht
 | .bnd _,_,h=>by cases h
 | .con _,_,h=>by cases h
 | .sel d k,ht,h=>by
  simp only[Tm.has,Bool.or_eq_true]at h
  rcases h with h | h
  ·exact E8 hs d (hs.kid ht (by simp[Tm.kids])).1 h
  ·exact E8 hs k (hs.kid ht (by simp[Tm.kids])).1 h
 | .upd d k a,ht,h=>by
  simp only[Tm.has,Bool.or_eq_true]at h
  rcases h with(h | h) | h
  ·exact E8 hs d (hs.kid ht (by simp[Tm.kids])).1 h
  ·exact E8 hs k (hs.kid ht (by simp[Tm.kids])).1 h
  ·exact E8 hs a (hs.kid ht (by simp[Tm.kids])).1 h
theorem TG{S:List Tm}(hs:I5 S){t:Tm}(ht:t∈S){ks:List Int}(hn:ks.Nodup)(hk:∀x∈ks,t.has x=true):ks.length≤S.length:=by
 have hsub:∀u∈ks.map Tm.var,u∈S:=fun u hu=>by
  obtain⟨x,hx,rfl⟩:=List.mem_map.1 hu
  exact E8 hs t ht (hk x hx)
 have hnd:(ks.map Tm.var).Nodup:=by
  rw[List.Nodup,List.pairwise_map]
  exact hn.imp fun h e=>h (by injection e)
 have:=Fo hnd hsub
 simpa using this
end
def push(S:List Tm)(u:Tm):List Tm:=if u∈S then S else S++[u]
def Ez(S:List Tm)(l:List Tm):List AV:=l.map fun t=>iv (ix S t:Int)
def BW(s:AE)(S:List Tm)(l:List Tm)(v:AV):Prop:=
 (l=[]∧v=.slice none 0 (some 0))∨∃j q cap,v=.slice (some (j,q)) l.length cap∧0<l.length∧j<s.next∧Bs (s.heap.get j) q l.length=some (Ez S l)
theorem LR{o:Option AX}{q n:Nat}{cs:List AV}(h:Bs o q n=some cs){k:Nat}(hk:k<n):Cz o (q+k)=cs[k]? := by
 unfold Bs at h
 simp only[ZA]at h
 obtain⟨r,h1,h2⟩:=h
 obtain⟨h3,h4⟩:=AA h2
 have h3:q+n≤r.n:=by simpa[ZN]using h3
 unfold Cz
 rw[h1,Option.bind_some,Ph (show q+k<r.n by omega)]
 exact AG.take_get h4 k hk
theorem Mi{o:Option AX}{q:Nat}{S l:List Tm}(h:Bs o q l.length=some (Ez S l)){k:Nat}{t:Tm}(hk:l[k]? = some t):Cz o (q+k)=some (iv (ix S t:Int)):=by
 have hlt:k<l.length:=by
  rcases ZO k l.length with h' | h'
  ·exact h'
  ·rw[ZT h']at hk;cases hk
 rw[LR h hlt,Ez,Zg,hk];rfl
theorem T3(s:AE)(i o:Nat):Ad Tryz.prog 44 false false false s [.ptr (some (i,o))]=some (.slice (some (i,o)) 3 (some 3)):=by
 have:Ad Tryz.prog 44 false false false s [.ptr (some (i,o))]=some (.slice (some (i,o+0 * 1)) 3 (some 3)):=by kernel_rfl
 exact this
theorem MS{s:AE}{i o:Nat}{S l:List Tm}{v:AV}(hn:l.length≤3)(h:BW s S l v):
  IB Tryz.prog s [27,27] [.slice (some (i,o)) 3 (some 3),v]=(Bk s i o (Ez S l)).bind fun s'=>some (iv (l.length:Int),s'):=by
 rcases h with⟨rfl,rfl⟩ | ⟨j,q,cap,rfl,h0,_,h⟩
 ·simp only[IB,Tryz.underlying27,Ho,Option.bind_some]
  rfl
 ·have hb:Nat.ble l.length 3=true:=BS hn
  simp only[IB,Tryz.underlying27,Ho,Option.bind_some,hb,cond_true,Zf,DD,h]
  rfl
theorem PB{s:AE}{S l:List Tm}{v:AV}(h:BW s S l v)(s':AE):Ce Tryz.prog s' 27 v=some (iv (l.length:Int)):=by
 rcases h with⟨rfl,rfl⟩ | ⟨j,q,cap,rfl,_⟩<;>exact A8 Tryz.underlying27
theorem Cd(u:Tm):u.kids.length≤3:=by cases u<;>simp[Tm.kids]
theorem R7{s:AE}{S:List Tm}{u:Tm}{b:Nat}(hb:s.next=b):
  Bk (ext s [R 65 0 false [iv u.kind,iv u.id,iv 0,iv 0,iv 0,.str u.ktext],R 43 0 false u.cells]) (nid b 0) 2 (Ez S u.kids)=some (ext s [R 65 0 false (BB S u),R 43 0 false u.cells]):=by
 cases u<;>simp[Tm.kids,Ez,BB,part,hb,Rz,Wa,Wb,Wc,Wd,We,Wf,Wg,Wh,Wi,Wj,Wl,Wm,Wn,Wp,Wq,Wr,Ws,Wt,Wu,Wv,Ww,Wx,Wy,Wz,Xa,Xb,Xc,Xd,Xe,Xf,Xg,Xh,Xi,Xj,Xk,Xl,Xm,Xn,Xo,Xp,Xq,Xr,ZC,ZF,ZE,ZD,ZH,ZI,List.getElem?_cons_zero,List.getElem?_cons_succ,ZG,ZJ,ZK,ZL,ZB,Nat.reduceAdd,Nat.reduceLT,Nat.reduceLeDiff,decide_true,decide_false,Bool.true_and,Bool.and_true,ZM,Y9,Option.some.injEq,Xs,Xt,Xu,Xv]
set_option maxRecDepth 100000 in
theorem T2(a b c d e:Int)(l:List Nat):CA Tryz.prog 65 (.agg [iv a,iv b,iv c,iv d,iv e,.str l]) =
  (A4 .i64 a && (A4 .i64 b && ((A4 .i64 c && (A4 .i64 d && (A4 .i64 e && true))) && (Nat.ble l.length 1099511627776 && true)))):=by kernel_rfl
theorem TZ:∀a,a<13→(Eg.getD a ([],[])).1.length<200:=by decide
theorem Sy{S:List Tm}{u:Tm}(hS:S.length<100000)(hk:∀k∈u.kids,k∈S)(ho:u.ok):CA Tryz.prog 65 (.agg (BB S u))=true:=by
 have hp:∀k,i64 (part S u k):=fun k=>by
  unfold part
  cases e:u.kids[k]? with
  | none=>show i64 0;unfold i64;omega
  | some x=>have:=Ep (hk x (ZZ e));show i64 (ix S x:Int);unfold i64;omega
 have h1:i64 u.kind:=by cases u<;>(simp only[Tm.kind,i64];omega)
 have h2:i64 u.id:=by
  cases u with
  | var i=>exact ho
  | bnd i=>exact ho.2
  | con n=>show i64 0;unfold i64;omega
  | sel d k=>show i64 0;unfold i64;omega
  | upd d k a=>show i64 0;unfold i64;omega
 have h3:u.ktext.length≤1099511627776:=by
  cases u with
  | con n=>have:=TZ n ho;show(Eg.getD n ([],[])).1.length≤_;omega
  | var i=>exact ZW _
  | bnd i=>exact ZW _
  | sel d k=>exact ZW _
  | upd d k a=>exact ZW _
 unfold BB
 rw[T2,BN h1,BN h2,BN (hp 0),BN (hp 1),BN (hp 2),BS h3]
 rfl
theorem KO{s:AE}{fi:Nat}{S:List Tm}{u:Tm}(hf:s.heap.get fi=some (.map 65 (CJ S)))(hs:I5 S)(hS:S.length<100000)(hk:∀k∈u.kids,k∈S)(ho:u.ok):
  Bp Tryz.prog s 60 (.map (some fi)) (.agg (BB S u)) true=some (.tuple [if u∈S then iv (ix S u:Int)else iv 0,.bool (decide (u∈S))]):=by
 unfold Bp
 simp only[Tryz.underlying60,Sy hS hk ho,Xa,FA,hf,D6,Option.bind_some,IN hs hk ho]
 by_cases hm:u∈S<;>simp[hm,Y8]
theorem Kn{s:AE}{fi:Nat}{S:List Tm}{u:Tm}(hf:s.heap.get fi=some (.map 65 (CJ S)))(hs:I5 S)(hS:S.length<100000)(hk:∀k∈u.kids,k∈S)(ho:u.ok)(hu:u ∉ S):
  Br Tryz.prog s 60 (.map (some fi)) (.agg (BB S u)) (iv (S.length:Int))=some (setObj s fi (.map 65 (CJ (S++[u])))):=by
 unfold Br
 simp only[Tryz.underlying60,Sy hS hk ho,Xa,FA,hf,D6,Option.bind_some,JD,IN hs hk ho,if_neg hu]
 rw[IP hs hu hk]
theorem O9(xs:List AV)(s:AE):Dq 55 xs s=IC 3 s xs:=by kernel_rfl
theorem Oe{E:Bt}(hE:A0 E){s:AE}{i j:Nat}{es fs es':List (AV×AV)}{K:AV→AE→Prop}(hij:i≠j)(h1:s.heap.get i=some (.map 3 es))(h2:s.heap.get j=some (.map 3 fs))(hl:es.length+fs.length≤1000000)(hp:Gu fs es=some es')
  (k:K (.tuple []) (setObj s i (.map 3 es'))):WF E 55 [.map (some i),.map (some j)] K s:=by
 refine WF.native (hE.tab _ _ _ (.tuple [],setObj s i (.map 3 es')) ?_) k
 rw[O9]
 have hb:Nat.beq i j=false:=AG.beq_no hij
 simp only[IC,hb,Bool.not_false,Xa,FA,h1,h2,D6,Option.bind_some,BS hl,hp]
theorem Ox(a:Int):Dp false (iv a) [iv 4097]=some (iv (min a 4097)):=by
 show AF true (some (iv (bif KP 4097 a then 4097 else a)))=_
 rw[Cg]
 show some (iv _)=_
 by_cases h:(4097:Int)<a
 ·simp only[h,decide_true,cond_true];rw[Int.min_eq_right (by omega)]
 ·simp only[h,decide_false,cond_false];rw[Int.min_eq_left (by omega)]
theorem BW.at{s:AE}{S l:List Tm}{v:AV}(h:BW s S l v){k:Nat}{t:Tm}(hk:l[k]? = some t):∃j q cap,v=.slice (some (j,q)) l.length cap∧j<s.next∧Cz (s.heap.get j) (q+k)=some (iv (ix S t:Int)):=by
 rcases h with⟨rfl,rfl⟩ | ⟨j,q,cap,rfl,h0,h1,h2⟩
 ·simp at hk
 ·exact⟨j,q,cap,rfl,h1,Mi h2 hk⟩
def Yg(z:Nat):List Tm→Nat
 | []=>z
 | t::l=>Yg (min (z+t.sz) 4097) l
theorem S6(u:Tm):Yg 1 u.kids=u.sz:=by cases u<;>rfl
section
variable{E:Bt}(hE:A0 E){s:AE}{p:Nat}{S:List Tm}{O:List Nat}{tv:AV}{fi:Nat}{vm OT:List Nat}(e:EE s p S O tv fi vm OT)(hS:I5 S){pv:AV}{us:List Tm}(hp:BW s S us pv)(h3:us.length≤3)(hin:∀t∈us,t∈S)
  (a1 a2 a4 a5 a6 a7 a8 a11 a12 k0 k1 k2 k3 k4 k5 c0 c1 c2 c3 c4 c5 c6:AV) (kb vb:AX) {b:Nat} (hs:s.next=b)
include hE e hS hp h3 hin hs
theorem Se       {Q : Au   → Prop} {marks : List Nat} : ∀ (l2 l1 : List Tm) (ks : List Int) (z : Nat) (a10 a16 : AV), us = l1 ++ l2 → ks.Nodup → ks.length ≤ 100000 + l1.length * 100000 → z ≤ 4097 →
    (∀ (ks':List Int) (b10 b15 b16:AV),ks'.Nodup→(∀x,x∈ks'↔x∈ks∨∃t∈l2,t.has x=true) →
      A2 0 Q ⟨.exit 0,[.ptr (some (p,0)),a1,a2,pv,a4,a5,a6,a7,a8,.ptr (some (nid b 3,0)),b10,a11,a12,pv,iv (us.length:Int),b15,b16],marks,ext s [kb,vb,.map 3 (A5 ks'),R 70 0 false [k0,k1,k2,k3,k4,k5,c0,c1,c2,c3,c4,c5,c6,iv (us.length:Int),iv (Yg z l2:Int),.map (some (nid b 2))]]⟩) →
    WC E none Gf.loop (A2 0 Q) [.ptr (some (p,0)),a1,a2,pv,a4,a5,a6,a7,a8,.ptr (some (nid b 3,0)),a10,a11,a12,pv,iv (us.length:Int),iv (l1.length:Int),a16] marks
      (ext s [kb,vb,.map 3 (A5 ks),R 70 0 false [k0,k1,k2,k3,k4,k5,c0,c1,c2,c3,c4,c5,c6,iv (us.length:Int),iv (z:Int),.map (some (nid b 2))]]):=by
  intro l2
  induction l2 with
  | nil =>
    intro l1 ks z a10 a16 hus hn hl hz hq
    refine WC.loop' ?_
    have hlt:¬ ((l1.length:Int)<(us.length:Int)):=by rw[hus];simp
    simp only[Gf,P5,hlt,decide_false,Qa,Qb,Qc,Qd,Qe,Qf,Qg,Qh,Qi,Qj,Qk,Ql,Qm,Qn,true_and,and_true,Qo,Qp,Qq,Qr,Qs,Qt,Qu,Qv,Qw,Qx,Qy,Qz,Ra,Rb,Rc,Rd,Re,Rf,Rg,Rh,Ri,Rj,Rk,Rl,Rm,Ya,Yb,Yc,Rn,Ro,Xv,Yd,Ye,Rq,Rs,Rt,Ru,Rw,Rx,Ry]
    exact hq ks _ _ _ hn (fun x=>by simp)
  | cons t l2 ih =>
    intro l1 ks z a10 a16 hus hn hl hz hq
    refine WC.loop' ?_
    obtain⟨L,hL⟩:∃L,L=Ai.loop Gf:=⟨_,rfl⟩
    rw[← hL]
    have hlt:((l1.length:Int)<(us.length:Int)):=by rw[hus];simp;omega
    have hat:us[l1.length]? = some t:=by rw[hus];simp
    obtain⟨j,q,cap,rfl,hj,hpl⟩:=hp.at hat
    have htS:t∈S:=hin t (ZZ hat)
    obtain⟨m,jr,r,hvm,rfl,hjO,hjr,_,hle⟩:=e.entry hS (Cv htS)
    have hls:=hle 14 (by omega)
    have hlv:=hle 15 (by omega)
    rw[← hjr]at hls hlv
    have hc7:=Dg (hS.ok t htS)
    have es:(A7 S t m)[14]? = some (iv (t.sz:Int)):=by simp[A7,BB,hc7,Zc,Zb]
    have ev:(A7 S t m)[15]? = some (.map (some m)):=by simp[A7,BB,hc7,Zc,Zb]
    rw[es]at hls
    rw[ev]at hlv
    obtain⟨⟨mk,hm1,hm2,hm3,hm4⟩,hmb,hmO⟩:=e.vars _ _ _ (Cv htS) hvm
    have hpb:=e.plt
    have hobj:=e.obj
    have hjrb:=e.lt jr hjO
    rw[hs]at hj hjrb hmb hpb
    have hzz:=t.sz_pos
    have hix:=Ep htS
    have hadd:i64 ((z:Int)+(t.sz:Int)):=by unfold i64;omega
    have hadd1:i64 ((l1.length:Int)+1):=by unfold i64;omega
    have hl3:l1.length<us.length:=by omega
    simp only[Gf,P5,Pz,P0,hlt,decide_true,Qa,Qb,Qc,Qd,Qe,Qf,Qg,Qh,Qi,Qj,Qk,Ql,Qm,Qn,true_and,and_true,Qo,Qp,Qq,Qr,Qs,Qt,Qu,Qv,Qw,Qx,Qy,Qz,Ra,Rb,Rc,Rd,Re,Rf,Rg,Rh,Ri,Rj,Rk,Rl,Rm,Ya,Yb,Yc,Rn,Ro,Xv,Yd,Ye,Rq,Rs,Rt,Ru,Rw,Rx,Ry,Ao Tryz.underlying27 Ho hl3,Ao Tryz.underlying59 ER hix,Dx,OQ,L7,Ho,II,Fj,hj,hjrb,hpb,hpl,hobj,hls,hs,Zf,By _ _ _ _ hadd,Ox,Rz,Wa,Wb,Wc,Wd,We,Wf,Wg,Wh,Wi,Wj,Wl,Wm,Wn,Wp,Wq,Wr,Ws,Wt,Wu,Wv,Ww,Wx,Wy,Wz,Xa,Xb,Xc,Xd,Xe,Xf,Xg,Xh,Xi,Xj,Xk,Xl,Xm,Xn,Xo,Xp,Xq,Xr,ZC,ZF,ZE,ZD,ZH,ZI,List.getElem?_cons_zero,List.getElem?_cons_succ,ZG,ZJ,ZK,ZL,ZB,Nat.reduceAdd,Nat.reduceLT,Nat.reduceLeDiff,decide_true,decide_false,Bool.true_and,Bool.and_true,ZM,Y9,Option.some.injEq,Xs,Xt,Xu,Xv]
    have hmn:nid b 2≠m:=by rw[AH];omega
    simp only[P1,Qa,Qb,Qc,Qd,Qe,Qf,Qg,Qh,Qi,Qj,Qk,Ql,Qm,Qn,true_and,and_true,Qo,Qp,Qq,Qr,Qs,Qt,Qu,Qv,Qw,Qx,Qy,Qz,Ra,Rb,Rc,Rd,Re,Rf,Rg,Rh,Ri,Rj,Rk,Rl,Rm,Ya,Yb,Yc,Rn,Ro,Xv,Yd,Ye,Rq,Rs,Rt,Ru,Rw,Rx,Ry,Ao Tryz.underlying59 ER hix,OQ,L7,RG,Fj,hjrb,hpb,hobj,hlv,hs,Rz,Wa,Wb,Wc,Wd,We,Wf,Wg,Wh,Wi,Wj,Wl,Wm,Wn,Wp,Wq,Wr,Ws,Wt,Wu,Wv,Ww,Wx,Wy,Wz,Xa,Xb,Xc,Xd,Xe,Xf,Xg,Xh,Xi,Xj,Xk,Xl,Xm,Xn,Xo,Xp,Xq,Xr,ZC,ZF,ZE,ZD,ZH,ZI,List.getElem?_cons_zero,List.getElem?_cons_succ,ZG,ZJ,ZK,ZL,ZB,Nat.reduceAdd,Nat.reduceLT,Nat.reduceLeDiff,decide_true,decide_false,Bool.true_and,Bool.and_true,ZM,Y9,Option.some.injEq,Xs,Xt,Xu,Xv]
    refine Oe hE hmn (by rw[Wg hs (by simp)];rfl) (by rw[Wh (by rw[hs];exact hmb)];exact hm1) ?_ (HP mk ks) ?_
    · simp only[A5,ZY];omega
    have hzc:min ((z:Int)+(t.sz:Int)) 4097=((min (z+t.sz) 4097:Nat):Int):=by omega
    simp only[P2,Qa,Qb,Qc,Qd,Qe,Qf,Qg,Qh,Qi,Qj,Qk,Ql,Qm,Qn,true_and,and_true,Qo,Qp,Qq,Qr,Qs,Qt,Qu,Qv,Qw,Qx,Qy,Qz,Ra,Rb,Rc,Rd,Re,Rf,Rg,Rh,Ri,Rj,Rk,Rl,Rm,Ya,Yb,Yc,Rn,Ro,Xv,Yd,Ye,Rq,Rs,Rt,Ru,Rw,Rx,Ry,By _ _ _ _ hadd1,hs,hzc,Rz,Wa,Wb,Wc,Wd,We,Wf,Wg,Wh,Wi,Wj,Wl,Wm,Wn,Wp,Wq,Wr,Ws,Wt,Wu,Wv,Ww,Wx,Wy,Wz,Xa,Xb,Xc,Xd,Xe,Xf,Xg,Xh,Xi,Xj,Xk,Xl,Xm,Xn,Xo,Xp,Xq,Xr,ZC,ZF,ZE,ZD,ZH,ZI,List.getElem?_cons_zero,List.getElem?_cons_succ,ZG,ZJ,ZK,ZL,ZB,Nat.reduceAdd,Nat.reduceLT,Nat.reduceLeDiff,decide_true,decide_false,Bool.true_and,Bool.and_true,ZM,Y9,Option.some.injEq,Xs,Xt,Xu,Xv]
    have hlen:(l1++[t]).length=l1.length+1:=by simp
    have:=ih (l1++[t]) (mk.foldl Fh ks) (min (z+t.sz) 4097) (iv (ix S t:Int)) (.bool true) (by rw[hus];simp) (HD mk hn) ?_ (by omega) ?_
    · rw [hlen] at this
      rw[hL]
      exact this
    · have:=GM mk ks
      rw[hlen];omega
    · intro ks' b10 b15 b16 hn' hx
      refine hq ks' b10 b15 b16 hn' fun x=>?_
      rw[hx,JU,hm3]
      constructor
      · rintro ((h | h) | ⟨u, h1, h2⟩)
        · exact .inl h
        · exact .inr ⟨t,ZU,h⟩
        · exact .inr ⟨u,ZQ _ h1,h2⟩
      · rintro (h | ⟨u, h1, h2⟩)
        · exact .inl (.inl h)
        · rcases Zd.1            h1 with rfl | h1
          · exact .inl (.inr h2)
          · exact .inr ⟨u,h1,h2⟩
end
end
end Go.Proofs.YtickdehehcmfbaaGreatDoor.Am
